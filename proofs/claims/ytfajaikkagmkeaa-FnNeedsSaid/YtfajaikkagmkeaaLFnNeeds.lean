/-
  For every input the law FnNeeds returns true: what is needed is what the transformer tells, and for a weaker condition no more is needed. No condition.
-/
import Derived.Test.YtfajaikkagmkeaaRows
import Derived.Test.YtfajaikkagmkeaaA14
import Derived.Test.YtfajaikkagmkeaaA16
import Derived.Test.YtfajaikkagmkeaaA17
import Derived.Test.YtfajaikkagmkeaaC6
import Derived.Test.YtfajaikkagmkeaaD6
import Derived.Test.YtfajaikkagmkeaaRe
import Derived.Test.YtfajaikkagmkeaaG3
import Derived.WalkKit
import Derived.ProofKit
import Derived.OpenShut
import Derived.ShutString
import Derived.ChangeOld
import Derived.Below
namespace Go.Proofs.Ytfajaikkagmkeaa.fnNeeds
open Go.ChangeShapes Go.WideShapes Go.ChangeAt Go.RowKit Go.DC
open Go.ChangeMaps (open_string shut_string)
set_option linter.unusedVariables false
set_option linter.unusedSimpArgs false
set_option maxHeartbeats 400000
theorem own : ownKnob Try.prog.godebug = none := by kernel_rfl
theorem laidOut : laidOutB Try.prog = true := by kernel_rfl
theorem bor_up {a b : Int} (ha : Cv a) (hb : Cv b) : Sub a (bor a b) := (sub_bits ha (ha.or hb)).2 fun i hi h => by
  rw [Cv.has_or ha hb hi, h]; rfl
set_option maxHeartbeats 4000000 in
set_option maxRecDepth 100000 in
theorem walk (a0 : Option Addr) (len0 cap0 : Nat) (z0 : List Int) (a1 : Option Addr) (len1 cap1 : Nat) (z1 : List Int) (w : World) (w0 : IsRow .u8 w a0 len0 cap0 z0) (w1 : IsRow .u8 w a1 len1 cap1 z1) :
    Calls Try.prog 6 #[.slice a0 len0 cap0, .slice a1 len1 cap1] w fun e w' => e = .returned (.bool true) ∧ Below w.heap.size w w' := by
  by_cases hl : (1048576 : Int) < len0
  · clear w0 w1
    go_enter Try.func6, Try.ntmps6
    go_wp2_with fail
    go_ret
    exact ⟨rfl, Below.refl _ _⟩
  by_cases hl1 : (1048576 : Int) < len1
  · clear w0 w1
    go_enter Try.func6, Try.ntmps6
    go_wp2_with fail
    go_ret
    exact ⟨rfl, Below.refl _ _⟩
  have H0 := Lib.hid w0
  have H1 := Lib.hid w1
  clear w0 w1
  go_enter Try.func6, Try.ntmps6
  go_wp2_with fail
  refine (spec_DrawNeedsBefore a0 len0 cap0 z0 w H0.out).mono ?_
  rintro e w2 ⟨c, p, hz, rfl, hB⟩
  have HB := Lib.hid hB
  clear hB H0
  have hm : c.size ≤ maxLen := by unfold maxLen; omega
  have c1 := fun w => impl_NeedsBefore c p w hm
  have c2 := fun w => spec_NeedsBefore c p w hm
  cases hc : cto c with
  | none =>
    have hn : need c p = -1 := by unfold need; rw [ctv_none _ _ hc]
    rw [hn] at c1 c2
    have C1 := Lib.hid c1
    clear c1
    have C2 := Lib.hid c2
    clear c2
    clear hc hm hn H1
    (go_wp2_with fail; refine (C1.out _).mono ?_; rintro e w' ⟨rfl, hb⟩; have HB := Lib.hid (bgo HB.out hb); clear hb)
    (go_wp2_with fail; refine (C2.out _).mono ?_; rintro e w' ⟨rfl, hb⟩; have HB := Lib.hid (bgo HB.out hb); clear hb)
    (go_wp2_with fail; refine (C2.out _).mono ?_; rintro e w' ⟨rfl, hb⟩; have HB := Lib.hid (bgo HB.out hb); clear hb)
    go_wp2_with fail
    go_ret
    exact ⟨rfl, HB.out⟩
  | some t =>
    have hn : ∀ q, need c q = askV (cv q) (ap (tr t) q) := fun q => by unfold need; rw [ctv_some _ _ hc]
    rw [hn] at c1 c2
    cases hp : cv p
    case false =>
      rw [hp, askV_false] at c1 c2
      have C1 := Lib.hid c1
      clear c1
      have C2 := Lib.hid c2
      clear c2
      clear hc hm hn H1 hp
      (go_wp2_with fail; refine (C1.out _).mono ?_; rintro e w' ⟨rfl, hb⟩; have HB := Lib.hid (bgo HB.out hb); clear hb)
      (go_wp2_with fail; refine (C2.out _).mono ?_; rintro e w' ⟨rfl, hb⟩; have HB := Lib.hid (bgo HB.out hb); clear hb)
      (go_wp2_with fail; refine (C2.out _).mono ?_; rintro e w' ⟨rfl, hb⟩; have HB := Lib.hid (bgo HB.out hb); clear hb)
      go_wp2_with fail
      go_ret
      exact ⟨rfl, HB.out⟩
    case true =>
      rw [hp, askV_true] at c1 c2
      obtain ⟨hcb, hw, h200⟩ := cto_some.1 hc
      have hT := tr_Tr hw
      have hpc := cv_iff.1 hp
      have hq : Cv ((len1 % 16 : Nat) : Int) := ⟨by omega, by omega⟩
      have hmod : (len1 : Int).tmod 16 = ((len1 % 16 : Nat) : Int) := rfl
      have c3 := fun w => impl_OrCondition p ((len1 % 16 : Nat) : Int) w
      rw [hp, cv_iff.2 hq, Bool.and_self, askV_true] at c3
      have hpq : Cv (bor p ((len1 % 16 : Nat) : Int)) := Cv.or hpc hq
      have c4 := fun w => impl_NeedsBefore c (bor p ((len1 % 16 : Nat) : Int)) w hm
      rw [hn, cv_iff.2 hpq, askV_true] at c4
      have c5 := fun w => laws_dcTrans c w hm
      simp only [ctv_some _ _ hc] at c5
      have c6 := fun w => impl_ApplyTrans (txt 16 (tr t)) p w
      rw [tvB_txt hT, hp, Bool.and_self, askV_true, ap_txt hT.dg hpc.1 hpc.2] at c6
      have c7 := fun w => impl_Implies (ap (tr t) p) (ap (tr t) (bor p ((len1 % 16 : Nat) : Int))) w
      rw [cv_iff.2 (hT.cv hpc), cv_iff.2 (hT.cv hpq), sub_true (hT.sub hpc hpq (bor_up hpc hq))] at c7
      have hn0 : ¬ ap (tr t) p < 0 := by have := (hT.cv hpc).1; omega
      have hd0 : decide (ap (tr t) p < 0) = false := decide_eq_false hn0
      clear hcb hw h200 hT hc hm hn hpc hq hpq hp H1
      generalize ap (tr t) p = n at *
      generalize ap (tr t) (bor p ((len1 % 16 : Nat) : Int)) = m at *
      generalize bor p ((len1 % 16 : Nat) : Int) = pq at *
      generalize txt 16 (tr t) = T at *
      generalize ((len1 % 16 : Nat) : Int) = q at *
      have C1 := Lib.hid c1
      clear c1
      have C2 := Lib.hid c2
      clear c2
      have C3 := Lib.hid c3
      clear c3
      have C4 := Lib.hid c4
      clear c4
      have C5 := Lib.hid c5
      clear c5
      have C6 := Lib.hid c6
      clear c6
      have C7 := Lib.hid c7
      clear c7
      (go_wp2_with fail; refine (C1.out _).mono ?_; rintro e w' ⟨rfl, hb⟩; have HB := Lib.hid (bgo HB.out hb); clear hb)
      (go_wp2_with fail; refine (C2.out _).mono ?_; rintro e w' ⟨rfl, hb⟩; have HB := Lib.hid (bgo HB.out hb); clear hb)
      go_wp2_with fail
      (go_wp2_with fail; refine (C3.out _).mono ?_; rintro e w' ⟨rfl, rfl⟩)
      (go_wp2_with fail; refine (C4.out _).mono ?_; rintro e w' ⟨rfl, hb⟩; have HB := Lib.hid (bgo HB.out hb); clear hb)
      (go_wp2_with fail; refine (C5.out _).mono ?_; rintro e w' ⟨rfl, hb⟩; have HB := Lib.hid (bgo HB.out hb); clear hb)
      (go_wp2_with fail; refine (C6.out _).mono ?_; rintro e w' ⟨rfl, hb⟩; have HB := Lib.hid (bgo HB.out hb); clear hb)
      (go_wp2_with fail; refine (C7.out _).mono ?_; rintro e w' ⟨rfl, rfl⟩)
      go_wp2_with fail
      go_ret
      exact ⟨rfl, HB.out⟩
set_option maxRecDepth 100000 in
theorem lifted (os : Os) (started : os.Started) (H : Type) (enc : TypeId × Value → H) :
    ReturnsInHanded {} Try.checked os 6 .any (Rows.fnNeedsSpec.pre6 enc Try.prog Try.f6 Rows.fnNeedsRow.domain false) (Rows.fnNeedsSpec.post enc Try.prog Try.f6 false true false false) := by
  refine returnsInHanded_of_change (C := Try.checked) own started (by kernel_rfl) Try.func6
    (ChangeSpec.witness6 (enc := enc) (C := Try.checked) false ⟨#[], #[.slice none 0 0, .slice none 0 0], []⟩ 8 (by kernel_rfl) (by kernel_rfl) (by kernel_rfl) (by kernel_rfl)) ?_
  intro W base args ds gs before hval0 hW hcnd _
  have hval : ∀ (j : Nat) t v, Try.f6.params[j]? = some t → args[j]? = some v → Value.okWide Try.prog W .any base t v := hval0
  have hW' := hW
  obtain ⟨p, q, hA0, hV, rfl, hfz, hnd⟩ := hW
  have hA : DataW.TrodAll enc Try.prog W 0 (fun _ => true) true Try.f6.params.toList args.toList ds p := hA0
  rw [Try.params6] at hA hval
  obtain ⟨v0, vs0, d0, ds0, p0, q0, hargs, rfl, rfl, h0, r0⟩ := trodAll_cons hA
  obtain ⟨v1, vs1, d1, ds1, p1, q1, rfl, rfl, rfl, h1, r1⟩ := trodAll_cons r0
  obtain ⟨rfl, rfl, rfl⟩ := trodAll_nil r1
  obtain rfl : args = #[v0, v1] := by cases args; simp_all
  obtain ⟨rfl, rfl⟩ := trodVars_none hV
  obtain ⟨a0, len0, cap0, rfl⟩ := okWide_slice Try.underlying22 (hval 0 22 v0 rfl rfl)
  have k0 := h0
  have lt0 : ∀ x ∈ p0, x.block < W.heap.size := by obtain ⟨m, hm⟩ := k0; exact DataW.trod_lt m _ _ _ hm
  obtain ⟨z0, w0⟩ : ∃ zs, IsRow .u8 W a0 len0 cap0 zs := by
    obtain ⟨fuel, hf⟩ := h0
    rcases open_ints Try.underlying22 Try.underlying5 (by kernel_rfl) hf with ⟨hcs, _⟩ | ⟨x, l, c, zs, hcs, _, hl, hm, hz, _, hcell, hwz⟩
    · simp [Value.cells] at hcs
      obtain ⟨rfl, rfl, rfl⟩ := hcs
      exact ⟨[], .inl ⟨rfl, rfl, rfl, rfl⟩⟩
    · simp [Value.cells] at hcs
      obtain ⟨rfl, rfl, rfl⟩ := hcs
      exact ⟨zs, .inr ⟨_, rfl, hl, hm, by simpa using hz, hcell, hwz⟩⟩
  obtain ⟨a1, len1, cap1, rfl⟩ := okWide_slice Try.underlying22 (hval 1 22 v1 rfl rfl)
  have k1 := h1
  have lt1 : ∀ x ∈ p1, x.block < W.heap.size := by obtain ⟨m, hm⟩ := k1; exact DataW.trod_lt m _ _ _ hm
  obtain ⟨z1, w1⟩ : ∃ zs, IsRow .u8 W a1 len1 cap1 zs := by
    obtain ⟨fuel, hf⟩ := h1
    rcases open_ints Try.underlying22 Try.underlying5 (by kernel_rfl) hf with ⟨hcs, _⟩ | ⟨x, l, c, zs, hcs, _, hl, hm, hz, _, hcell, hwz⟩
    · simp [Value.cells] at hcs
      obtain ⟨rfl, rfl, rfl⟩ := hcs
      exact ⟨[], .inl ⟨rfl, rfl, rfl, rfl⟩⟩
    · simp [Value.cells] at hcs
      obtain ⟨rfl, rfl, rfl⟩ := hcs
      exact ⟨zs, .inr ⟨_, rfl, hl, hm, by simpa using hz, hcell, hwz⟩⟩
  clear hA0 hval0
  refine (walk a0 len0 cap0 z0 a1 len1 cap1 z1 W w0 w1).mono fun e W' ⟨he, bel⟩ => ?_
  subst he
  exact ⟨_, rfl, _, _, _, [], _, [], hW', trodAll_mk1 (shut_bool Try.underlying4 _), (trodAll_cons_mk (Below.trod laidOut (by kernel_rfl) (of_decide_eq_true (by kernel_rfl)) k0 bel lt0) (trodAll_cons_mk (Below.trod laidOut (by kernel_rfl) (of_decide_eq_true (by kernel_rfl)) k1 bel lt1) trodAll_mk0)), rfl, bel.frame _, fun h => by cases h⟩
theorem over : Rows.fnNeedsRow.holds Try.pinned (OpenSpec.ofChange Rows.fnNeedsSpec) :=
  OpenClaim.holds_of_wide 6 Try.f6 rfl rfl rfl rfl rfl rfl rfl ⟨rfl, rfl, rfl, rfl, rfl⟩ rfl rfl rfl rfl rfl (by kernel_rfl) Try.func6 (by kernel_rfl)
    (of_decide_eq_true (by kernel_rfl)) (by unfold Func.isWrapper; first | (rw [if_pos (by decide +kernel)]; kernel_rfl) | (rw [if_neg (by decide +kernel)]; exact ⟨rfl, rfl⟩))
    (fun os started H enc _ => lifted os started H enc)
end Go.Proofs.Ytfajaikkagmkeaa.fnNeeds
namespace Go.Proofs.Ytfajaikkagmkeaa
theorem fnNeeds_holds : Rows.FnNeedsSaid := fnNeeds.over
#print axioms fnNeeds_holds
end Go.Proofs.Ytfajaikkagmkeaa
