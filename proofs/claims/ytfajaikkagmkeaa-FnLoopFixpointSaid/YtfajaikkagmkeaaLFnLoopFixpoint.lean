/-
  For every input the law FnLoopFixpoint returns true: a while is an if with its body and itself, and iterations are choices of doing nothing or the body and itself again. No condition.
-/
import Derived.Test.YtfajaikkagmkeaaRows
import Derived.Test.YtfajaikkagmkeaaG3
import Derived.Test.YtfajaikkagmkeaaA16
import Derived.Test.YtfajaikkagmkeaaC6
import Derived.Test.YtfajaikkagmkeaaD6
import Derived.Test.YtfajaikkagmkeaaRe
import Derived.WalkKit
import Derived.ProofKit
import Derived.OpenShut
import Derived.ShutString
import Derived.ChangeOld
import Derived.Below
namespace Go.Proofs.Ytfajaikkagmkeaa.fnLoopFixpoint
open Go.ChangeShapes Go.WideShapes Go.ChangeAt Go.RowKit Go.DC
open Go.ChangeMaps (open_string shut_string)
set_option linter.unusedVariables false
set_option linter.unusedSimpArgs false
set_option maxHeartbeats 400000
theorem own : ownKnob Try.prog.godebug = none := by kernel_rfl
theorem laidOut : laidOutB Try.prog = true := by kernel_rfl
set_option maxHeartbeats 4000000 in
set_option maxRecDepth 100000 in
theorem walk (a0 : Option Addr) (len0 cap0 : Nat) (z0 : List Int) (a1 : Option Addr) (len1 cap1 : Nat) (z1 : List Int) (w : World) (w0 : IsRow .u8 w a0 len0 cap0 z0) (w1 : IsRow .u8 w a1 len1 cap1 z1) :
    Calls Try.prog 7 #[.slice a0 len0 cap0, .slice a1 len1 cap1] w fun e w' => e = .returned (.bool true) ∧ Below w.heap.size w w' := by
  by_cases hl : (1048576 : Int) < len0
  · clear w0 w1
    go_enter Try.func7, Try.ntmps7
    go_wp2_with fail
    go_ret
    exact ⟨rfl, Below.refl _ _⟩
  by_cases hl1 : (1048576 : Int) < len1
  · clear w0 w1
    go_enter Try.func7, Try.ntmps7
    go_wp2_with fail
    go_ret
    exact ⟨rfl, Below.refl _ _⟩
  have H0 := Lib.hid w0
  have H1 := Lib.hid w1
  clear w0 w1
  go_enter Try.func7, Try.ntmps7
  go_wp2_with fail
  refine (spec_DrawTransOfContract a0 len0 cap0 z0 w H0.out).mono ?_
  rintro e w2 ⟨c, hz, rfl, hB⟩
  have HB := Lib.hid hB
  clear hB H0
  have hm : c.size ≤ maxLen := by unfold maxLen; omega
  have c1 := fun w => impl_TransOfContract c w hm
  have c2 := fun w => spec_TransOfContract c w hm
  cases hc : cto c with
  | none =>
    simp only [ctv_none _ _ hc, hc] at c1 c2
    have c1 : ∀ w, Calls Try.prog 29 #[.string c] w fun e w' => e = .returned (.tuple #[.string ByteArray.empty, .bool false]) ∧ Below w.heap.size w w' := c1
    have c2 : ∀ w, Calls Try.prog 30 #[.string c] w fun e w' => e = .returned (.tuple #[.string ByteArray.empty, .bool false]) ∧ Below w.heap.size w w' := c2
    have C1 := Lib.hid c1
    clear c1
    have C2 := Lib.hid c2
    clear c2
    clear hc hm H1
    (go_wp2_with fail; refine (C1.out _).mono ?_; rintro e w' ⟨rfl, hb⟩; have HB := Lib.hid (bgo HB.out hb); clear hb)
    (go_wp2_with fail; refine (C2.out _).mono ?_; rintro e w' ⟨rfl, hb⟩; have HB := Lib.hid (bgo HB.out hb); clear hb)
    go_wp2_with fail
    go_ret
    exact ⟨rfl, HB.out⟩
  | some t =>
    simp only [ctv_some _ _ hc, hc] at c1 c2
    have c1 : ∀ w, Calls Try.prog 29 #[.string c] w fun e w' => e = .returned (.tuple #[.string (txt 16 (tr t)), .bool true]) ∧ Below w.heap.size w w' := c1
    have c2 : ∀ w, Calls Try.prog 30 #[.string c] w fun e w' => e = .returned (.tuple #[.string (txt 16 (tr t)), .bool true]) ∧ Below w.heap.size w w' := c2
    obtain ⟨hcb, hw, h200⟩ := cto_some.1 hc
    subst hcb
    have hsz := hz
    rw [Ct.bytes_size] at hsz
    obtain ⟨n, hn⟩ : ∃ n : Nat, n = len1 % 16 := ⟨_, rfl⟩
    have hn16 : n < 16 := by omega
    have hmod : (len1 : Int).tmod 16 = (n : Int) := by rw [hn]; rfl
    have hxn : hx (dgb n) = n := hx_dgb (by omega) (by omega)
    have hxs1 : hxs [dgb n] = true := hxs_one (by omega)
    have wW : (Ct.u 119 [dgb n] t).wf = true := wf_u' rfl hxs1 hw
    have wS : (Ct.u 42 [] t).wf = true := wf_u' rfl rfl hw
    have wU : (Ct.u 43 [] t).wf = true := wf_u' rfl rfl hw
    have wTW : (Ct.b 105 [dgb n] (Ct.b 59 [] t (Ct.u 119 [dgb n] t)) (Ct.z 115 [])).wf = true := wf_b' rfl hxs1 (wf_b' rfl rfl hw wW) wf_s
    have wTS : (Ct.b 38 [] (Ct.b 59 [] t (Ct.u 42 [] t)) (Ct.z 115 [])).wf = true := wf_b' rfl rfl (wf_b' rfl rfl hw wS) wf_s
    have wTU : (Ct.b 124 [] (Ct.b 59 [] t (Ct.u 43 [] t)) (Ct.z 115 [])).wf = true := wf_b' rfl rfl (wf_b' rfl rfl hw wU) wf_s
    have hR : (ByteArray.mk #[48, 49, 50, 51, 52, 53, 54, 55, 56, 57, 97, 98, 99, 100, 101, 102]).extract (len1 % 16) (len1 % 16 + 1) = bts [dgb n] := by
      have h := dgt_extract (n := (n : Int)) (by omega) (by omega)
      rw [hn] at h ⊢
      exact h
    have eW : (⟨#[119]⟩ : ByteArray) ++ (ByteArray.mk #[48, 49, 50, 51, 52, 53, 54, 55, 56, 57, 97, 98, 99, 100, 101, 102]).extract (len1 % 16) (len1 % 16 + 1) ++ t.bytes = (Ct.u 119 [dgb n] t).bytes := by rw [hR]; show bts ([119]) ++ bts ([dgb n]) ++ bts (t.tx) = _; simp only [bts_app, bytes_bts]; simp [Ct.tx]
    have eS : (⟨#[42]⟩ : ByteArray) ++ t.bytes = (Ct.u 42 [] t).bytes := by show bts ([42]) ++ bts (t.tx) = _; simp only [bts_app, bytes_bts]; simp [Ct.tx]
    have eU : (⟨#[43]⟩ : ByteArray) ++ t.bytes = (Ct.u 43 [] t).bytes := by show bts ([43]) ++ bts (t.tx) = _; simp only [bts_app, bytes_bts]; simp [Ct.tx]
    have eTW : (⟨#[105]⟩ : ByteArray) ++ (ByteArray.mk #[48, 49, 50, 51, 52, 53, 54, 55, 56, 57, 97, 98, 99, 100, 101, 102]).extract (len1 % 16) (len1 % 16 + 1) ++ (⟨#[59]⟩ : ByteArray) ++ t.bytes ++ ((⟨#[119]⟩ : ByteArray) ++ (ByteArray.mk #[48, 49, 50, 51, 52, 53, 54, 55, 56, 57, 97, 98, 99, 100, 101, 102]).extract (len1 % 16) (len1 % 16 + 1) ++ t.bytes) ++ (⟨#[115]⟩ : ByteArray) = (Ct.b 105 [dgb n] (Ct.b 59 [] t (Ct.u 119 [dgb n] t)) (Ct.z 115 [])).bytes := by rw [hR]; show bts ([105]) ++ bts ([dgb n]) ++ bts ([59]) ++ bts (t.tx) ++ (bts ([119]) ++ bts ([dgb n]) ++ bts (t.tx)) ++ bts ([115]) = _; simp only [bts_app, bytes_bts]; simp [Ct.tx]
    have eTS : (⟨#[38, 59]⟩ : ByteArray) ++ t.bytes ++ ((⟨#[42]⟩ : ByteArray) ++ t.bytes) ++ (⟨#[115]⟩ : ByteArray) = (Ct.b 38 [] (Ct.b 59 [] t (Ct.u 42 [] t)) (Ct.z 115 [])).bytes := by show bts ([38, 59]) ++ bts (t.tx) ++ (bts ([42]) ++ bts (t.tx)) ++ bts ([115]) = _; simp only [bts_app, bytes_bts]; simp [Ct.tx]
    have eTU : (⟨#[124, 59]⟩ : ByteArray) ++ t.bytes ++ ((⟨#[43]⟩ : ByteArray) ++ t.bytes) ++ (⟨#[115]⟩ : ByteArray) = (Ct.b 124 [] (Ct.b 59 [] t (Ct.u 43 [] t)) (Ct.z 115 [])).bytes := by show bts ([124, 59]) ++ bts (t.tx) ++ (bts ([43]) ++ bts (t.tx)) ++ bts ([115]) = _; simp only [bts_app, bytes_bts]; simp [Ct.tx]
    have eZ : (⟨#[115]⟩ : ByteArray) = (Ct.z 115 []).bytes := rfl
    have c3 := fun w => impl_EqualContracts (Ct.u 119 [dgb n] t).bytes (Ct.b 105 [dgb n] (Ct.b 59 [] t (Ct.u 119 [dgb n] t)) (Ct.z 115 [])).bytes w (by rw [Ct.bytes_size]; unfold maxLen; simp [Ct.tx] <;> omega) (by rw [Ct.bytes_size]; unfold maxLen; simp [Ct.tx] <;> omega)
    rw [ctv_of wW (by simp [Ct.tx] <;> omega), ctv_of wTW (by simp [Ct.tx] <;> omega), loop_w hxs1 hw, ← eW, ← eTW] at c3
    have c4 := fun w => impl_EqualContracts (Ct.u 42 [] t).bytes (Ct.b 38 [] (Ct.b 59 [] t (Ct.u 42 [] t)) (Ct.z 115 [])).bytes w (by rw [Ct.bytes_size]; unfold maxLen; simp [Ct.tx] <;> omega) (by rw [Ct.bytes_size]; unfold maxLen; simp [Ct.tx] <;> omega)
    rw [ctv_of wS (by simp [Ct.tx] <;> omega), ctv_of wTS (by simp [Ct.tx] <;> omega), loop_d hw, ← eS, ← eTS] at c4
    have c5 := fun w => impl_EqualContracts (Ct.u 43 [] t).bytes (Ct.b 124 [] (Ct.b 59 [] t (Ct.u 43 [] t)) (Ct.z 115 [])).bytes w (by rw [Ct.bytes_size]; unfold maxLen; simp [Ct.tx] <;> omega) (by rw [Ct.bytes_size]; unfold maxLen; simp [Ct.tx] <;> omega)
    rw [ctv_of wU (by simp [Ct.tx] <;> omega), ctv_of wTU (by simp [Ct.tx] <;> omega), loop_a hw, ← eU, ← eTU] at c5
    have c6 := fun w => impl_RefinesContract (Ct.u 42 [] t).bytes (Ct.z 115 []).bytes w (by rw [Ct.bytes_size]; unfold maxLen; simp [Ct.tx] <;> omega) (by rw [Ct.bytes_size]; unfold maxLen; simp [Ct.tx] <;> omega)
    rw [ctv_of wS (by simp [Ct.tx] <;> omega), ctv_of wf_s (by simp [Ct.tx] <;> omega), loop_ds hw, ← eS, ← eZ] at c6
    have c7 := fun w => impl_RefinesContract (Ct.z 115 []).bytes (Ct.u 43 [] t).bytes w (by rw [Ct.bytes_size]; unfold maxLen; simp [Ct.tx] <;> omega) (by rw [Ct.bytes_size]; unfold maxLen; simp [Ct.tx] <;> omega)
    rw [ctv_of wf_s (by simp [Ct.tx] <;> omega), ctv_of wU (by simp [Ct.tx] <;> omega), loop_sa hw, ← eZ, ← eU] at c7
    have c8 := fun w => impl_RefinesContract (Ct.u 42 [] t).bytes (Ct.u 43 [] t).bytes w (by rw [Ct.bytes_size]; unfold maxLen; simp [Ct.tx] <;> omega) (by rw [Ct.bytes_size]; unfold maxLen; simp [Ct.tx] <;> omega)
    rw [ctv_of wS (by simp [Ct.tx] <;> omega), ctv_of wU (by simp [Ct.tx] <;> omega), loop_da hw, ← eS, ← eU] at c8
    clear eW eS eU eTW eTS eTU eZ wW wS wU wTW wTS wTU hxs1 hxn h200 hw hc hR hsz
    generalize t.bytes = c at *
    generalize txt 16 (tr t) = T at *
    have C1 := Lib.hid c1
    clear c1
    have C2 := Lib.hid c2
    clear c2
    have C3 := Lib.hid c3
    clear c3
    have C4 := Lib.hid c4
    clear c4
    have C5 := Lib.hid c5
    clear c5
    have C6 := Lib.hid c6
    clear c6
    have C7 := Lib.hid c7
    clear c7
    have C8 := Lib.hid c8
    clear c8
    (go_wp2_with fail; refine (C1.out _).mono ?_; rintro e w' ⟨rfl, hb⟩; have HB := Lib.hid (bgo HB.out hb); clear hb)
    (go_wp2_with fail; refine (C2.out _).mono ?_; rintro e w' ⟨rfl, hb⟩; have HB := Lib.hid (bgo HB.out hb); clear hb)
    (go_wp2_with fail; refine (C3.out _).mono ?_; rintro e w' ⟨rfl, hb⟩; have HB := Lib.hid (bgo HB.out hb); clear hb)
    (go_wp2_with fail; refine (C4.out _).mono ?_; rintro e w' ⟨rfl, hb⟩; have HB := Lib.hid (bgo HB.out hb); clear hb)
    (go_wp2_with fail; refine (C5.out _).mono ?_; rintro e w' ⟨rfl, hb⟩; have HB := Lib.hid (bgo HB.out hb); clear hb)
    (go_wp2_with fail; refine (C6.out _).mono ?_; rintro e w' ⟨rfl, hb⟩; have HB := Lib.hid (bgo HB.out hb); clear hb)
    (go_wp2_with fail; refine (C7.out _).mono ?_; rintro e w' ⟨rfl, hb⟩; have HB := Lib.hid (bgo HB.out hb); clear hb)
    (go_wp2_with fail; refine (C8.out _).mono ?_; rintro e w' ⟨rfl, hb⟩; have HB := Lib.hid (bgo HB.out hb); clear hb)
    go_wp2_with fail
    go_ret
    exact ⟨rfl, HB.out⟩
set_option maxRecDepth 100000 in
theorem lifted (os : Os) (started : os.Started) (H : Type) (enc : TypeId × Value → H) :
    ReturnsInHanded {} Try.checked os 7 .any (Rows.fnLoopFixpointSpec.pre6 enc Try.prog Try.f7 Rows.fnLoopFixpointRow.domain false) (Rows.fnLoopFixpointSpec.post enc Try.prog Try.f7 false true false false) := by
  refine returnsInHanded_of_change (C := Try.checked) own started (by kernel_rfl) Try.func7
    (ChangeSpec.witness6 (enc := enc) (C := Try.checked) false ⟨#[], #[.slice none 0 0, .slice none 0 0], []⟩ 8 (by kernel_rfl) (by kernel_rfl) (by kernel_rfl) (by kernel_rfl)) ?_
  intro W base args ds gs before hval0 hW hcnd _
  have hval : ∀ (j : Nat) t v, Try.f7.params[j]? = some t → args[j]? = some v → Value.okWide Try.prog W .any base t v := hval0
  have hW' := hW
  obtain ⟨p, q, hA0, hV, rfl, hfz, hnd⟩ := hW
  have hA : DataW.TrodAll enc Try.prog W 0 (fun _ => true) true Try.f7.params.toList args.toList ds p := hA0
  rw [Try.params7] at hA hval
  obtain ⟨v0, vs0, d0, ds0, p0, q0, hargs, rfl, rfl, h0, r0⟩ := trodAll_cons hA
  obtain ⟨v1, vs1, d1, ds1, p1, q1, rfl, rfl, rfl, h1, r1⟩ := trodAll_cons r0
  obtain ⟨rfl, rfl, rfl⟩ := trodAll_nil r1
  obtain rfl : args = #[v0, v1] := by cases args; simp_all
  obtain ⟨rfl, rfl⟩ := trodVars_none hV
  obtain ⟨a0, len0, cap0, rfl⟩ := okWide_slice Try.underlying22 (hval 0 22 v0 rfl rfl)
  have k0 := h0
  have lt0 : ∀ x ∈ p0, x.block < W.heap.size := by obtain ⟨m, hm⟩ := k0; exact DataW.trod_lt m _ _ _ hm
  obtain ⟨z0, w0⟩ : ∃ zs, IsRow .u8 W a0 len0 cap0 zs := by
    obtain ⟨fuel, hf⟩ := h0
    rcases open_ints Try.underlying22 Try.underlying5 (by kernel_rfl) hf with ⟨hcs, _⟩ | ⟨x, l, c, zs, hcs, _, hl, hm, hz, _, hcell, hwz⟩
    · simp [Value.cells] at hcs
      obtain ⟨rfl, rfl, rfl⟩ := hcs
      exact ⟨[], .inl ⟨rfl, rfl, rfl, rfl⟩⟩
    · simp [Value.cells] at hcs
      obtain ⟨rfl, rfl, rfl⟩ := hcs
      exact ⟨zs, .inr ⟨_, rfl, hl, hm, by simpa using hz, hcell, hwz⟩⟩
  obtain ⟨a1, len1, cap1, rfl⟩ := okWide_slice Try.underlying22 (hval 1 22 v1 rfl rfl)
  have k1 := h1
  have lt1 : ∀ x ∈ p1, x.block < W.heap.size := by obtain ⟨m, hm⟩ := k1; exact DataW.trod_lt m _ _ _ hm
  obtain ⟨z1, w1⟩ : ∃ zs, IsRow .u8 W a1 len1 cap1 zs := by
    obtain ⟨fuel, hf⟩ := h1
    rcases open_ints Try.underlying22 Try.underlying5 (by kernel_rfl) hf with ⟨hcs, _⟩ | ⟨x, l, c, zs, hcs, _, hl, hm, hz, _, hcell, hwz⟩
    · simp [Value.cells] at hcs
      obtain ⟨rfl, rfl, rfl⟩ := hcs
      exact ⟨[], .inl ⟨rfl, rfl, rfl, rfl⟩⟩
    · simp [Value.cells] at hcs
      obtain ⟨rfl, rfl, rfl⟩ := hcs
      exact ⟨zs, .inr ⟨_, rfl, hl, hm, by simpa using hz, hcell, hwz⟩⟩
  clear hA0 hval0
  refine (walk a0 len0 cap0 z0 a1 len1 cap1 z1 W w0 w1).mono fun e W' ⟨he, bel⟩ => ?_
  subst he
  exact ⟨_, rfl, _, _, _, [], _, [], hW', trodAll_mk1 (shut_bool Try.underlying4 _), (trodAll_cons_mk (Below.trod laidOut (by kernel_rfl) (of_decide_eq_true (by kernel_rfl)) k0 bel lt0) (trodAll_cons_mk (Below.trod laidOut (by kernel_rfl) (of_decide_eq_true (by kernel_rfl)) k1 bel lt1) trodAll_mk0)), rfl, bel.frame _, fun h => by cases h⟩
theorem over : Rows.fnLoopFixpointRow.holds Try.pinned (OpenSpec.ofChange Rows.fnLoopFixpointSpec) :=
  OpenClaim.holds_of_wide 7 Try.f7 rfl rfl rfl rfl rfl rfl rfl ⟨rfl, rfl, rfl, rfl, rfl⟩ rfl rfl rfl rfl rfl (by kernel_rfl) Try.func7 (by kernel_rfl)
    (of_decide_eq_true (by kernel_rfl)) (by unfold Func.isWrapper; first | (rw [if_pos (by decide +kernel)]; kernel_rfl) | (rw [if_neg (by decide +kernel)]; exact ⟨rfl, rfl⟩))
    (fun os started H enc _ => lifted os started H enc)
end Go.Proofs.Ytfajaikkagmkeaa.fnLoopFixpoint
namespace Go.Proofs.Ytfajaikkagmkeaa
theorem fnLoopFixpoint_holds : Rows.FnLoopFixpointSaid := fnLoopFixpoint.over
#print axioms fnLoopFixpoint_holds
end Go.Proofs.Ytfajaikkagmkeaa
