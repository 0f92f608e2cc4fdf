/-
  For all arguments the law FnExactPartsOfContract returns true: the program's PartsOfContract is the reference's, in memory of its own. No condition.
-/
import Derived.Test.YtmajmkggbgilbaaRows
import Derived.Test.YtmajmkggbgilbaaC8
import Derived.Test.YtmajmkggbgilbaaD8
import Derived.Test.YtmajmkggbgilbaaE
import Derived.WalkKit
import Derived.ProofKit
import Derived.OpenShut
import Derived.ShutString
import Derived.ChangeOld
import Derived.Below
namespace Go.Proofs.Ytmajmkggbgilbaa.fnExactPartsOfContract
open Go.ChangeShapes Go.WideShapes Go.ChangeAt Go.RowKit Go.DC
open Go.ChangeMaps (open_string shut_string)
set_option linter.unusedVariables false
set_option linter.unusedSimpArgs false
set_option maxHeartbeats 400000
theorem own : ownKnob Try.prog.godebug = none := by kernel_rfl
theorem laidOut : laidOutB Try.prog = true := by kernel_rfl
theorem partsOf_len (c : ByteArray) : (partsOf c).length ≤ 2 := by
  cases h : cto c with
  | none => rw [show partsOf c = [] from ctv_none _ _ h]; decide
  | some t => rw [show partsOf c = t.kids.map Ct.bytes from ctv_some _ _ h, List.length_map]; exact kids_le t
theorem marks_len (n : Nat) : (marks n).length = n := by simp [marks]
theorem Strs.els {w w' : World} {v : Value} {l : List ByteArray} {b : Nat} (h : Strs w v l) (hE : Els b w w') (hb : ∀ g k c, v = .slice (some ⟨g, 0, none⟩) k c → g ≠ b) : Strs w' v l := by
  obtain ⟨g, cap, rfl, h1, h2⟩ := h
  exact ⟨g, cap, rfl, Nat.lt_of_lt_of_le h1 hE.size, fun i hi => by rw [World.cell?_of_block (w := w) (hE.block g h1 (hb g _ _ rfl))]; exact h2 i hi⟩
set_option maxRecDepth 100000 in
theorem walk (a0 : ByteArray) (w : World) (w0 : a0.size ≤ maxLen) :
    Calls Try.prog 3 #[.string a0] w fun e w' => e = .returned (.bool true) ∧ Below w.heap.size w w' := by
  have C1 := Lib.hid (spec_PartsOfContract a0 w w0)
  have C2 := Lib.hid (fun w => impl_PartsOfContract a0 w w0)
  have Hlen := Lib.hid (partsOf_len a0)
  generalize partsOf a0 = l at *
  clear w0
  by_cases hz0 : (1048576 : Int) < (a0.size : Int)
  · go_enter Try.func3, Try.ntmps3
    go_wp2_with fail
    go_ret
    exact ⟨rfl, Below.refl _ _⟩
  go_enter Try.func3, Try.ntmps3
  go_wp2_with fail
  refine C1.out.mono ?_
  rintro e w1 ⟨v0, rfl, hs0, hb⟩
  have S0 := Lib.hid hs0
  have HB := Lib.hid hb
  clear hs0 hb
  go_wp2_with fail
  refine (C2.out _).mono ?_
  rintro e w2 ⟨v1, rfl, ho, hb⟩
  obtain ⟨g, cap, rfl, ho⟩ := ho
  obtain ⟨ht, hg⟩ := TRow.of ho
  have S0b := Lib.hid (S0.out.go hb)
  have Hlt0 := Lib.hid (show ∀ g0 k c, v0 = .slice (some ⟨g0, 0, none⟩) k c → g0 ≠ g by
    obtain ⟨g', c', hv, hlt, _⟩ := S0.out
    intro g0 k c hv'
    rw [hv] at hv'
    injection hv' with h1 _ _
    injection h1 with h1
    injection h1 with h1
    omega)
  have HT := Lib.hid ht
  have HG := Lib.hid hg
  have HB2 := Lib.hid (bgo HB.out hb)
  have Hlt := Lib.hid (show w.heap.size ≤ g by have := HB.out.size; omega)
  clear ho ht hg hb S0
  go_wp2_with fail
  refine (laws_eqStringS l Hlen.out _ _ _ (HT.out.strs cap) S0b.out).mono ?_
  rintro e w3 ⟨rfl, hb⟩
  have S0c := Lib.hid (S0b.out.go hb)
  have HT3 := Lib.hid (HT.out.go hb)
  have HB3 := Lib.hid (bgo HB2.out hb)
  clear hb S0b HT HB HB2
  go_wp2_with fail
  refine (laws_markStringS l Hlen.out g cap _ HT3.out).mono ?_
  rintro e w4 ⟨rfl, ht, he⟩
  have S0d := Lib.hid (Strs.els S0c.out he Hlt0.out)
  have HT4 := Lib.hid ht
  have HB4 := Lib.hid (show Below w.heap.size w w4 from HB3.out.trans (he.below Hlt.out HB3.out.size))
  clear ht he S0c HT3 HB3
  have hln := Hlen.out
  obtain ⟨n, hn⟩ : ∃ n, l.length = n := ⟨_, rfl⟩
  have Hn := Lib.hid hn
  rw [hn] at HT4 ⊢
  rw [hn] at hln
  clear hn
  have Hln := Lib.hid hln
  obtain ⟨N, hN⟩ : ∃ N : Int, N = ((n + 1 : Nat) : Int) := ⟨_, rfl⟩
  rw [← hN]
  have HH := Lib.hid (fun w (h : TRow w g (marks n)) => show Calls Try.prog 9 #[.slice (some ⟨g, 0, none⟩) n cap, .int .i64 1] w fun e w' => e = .returned (.int .i64 N) ∧ Below w.heap.size w w' from by
    rw [hN]; exact laws_heldStringS n Hln.out g cap w h)
  have hnn : ¬ N < 0 := by omega
  have hn0 : decide (N < 0) = false := decide_eq_false hnn
  clear hN hln
  go_wp2_with fail
  refine (HH.out _ HT4.out).mono ?_
  rintro e w5 ⟨rfl, hb⟩
  have S0e := Lib.hid (S0d.out.go hb)
  have HT5 := Lib.hid (HT4.out.go hb)
  have HB5 := Lib.hid (bgo HB4.out hb)
  clear hb S0d HT4 HB4
  go_wp2_with fail
  refine (C2.out _).mono ?_
  rintro e w6 ⟨v2, rfl, ho, hb⟩
  have S2 := Lib.hid ho.strs
  have S0f := Lib.hid (S0e.out.go hb)
  have HT6 := Lib.hid (HT5.out.go hb)
  have HB6 := Lib.hid (bgo HB5.out hb)
  clear ho hb S0e HT5 HB5
  go_wp2_with fail
  refine (laws_eqStringS l Hlen.out _ _ _ S2.out S0f.out).mono ?_
  rintro e w7 ⟨rfl, hb⟩
  have HT7 := Lib.hid (HT6.out.go hb)
  have HB7 := Lib.hid (bgo HB6.out hb)
  clear hb HT6 HB6
  go_wp2_with fail
  refine (HH.out _ HT7.out).mono ?_
  rintro e w8 ⟨rfl, hb⟩
  have HB8 := Lib.hid (bgo HB7.out hb)
  clear hb
  go_wp2_with fail
  go_ret
  exact ⟨rfl, HB8.out⟩
set_option maxRecDepth 100000 in
theorem lifted (os : Os) (started : os.Started) (H : Type) (enc : TypeId × Value → H) :
    ReturnsInHanded {} Try.checked os 3 .any (Rows.fnExactPartsOfContractSpec.pre6 enc Try.prog Try.f3 Rows.fnExactPartsOfContractRow.domain false) (Rows.fnExactPartsOfContractSpec.post enc Try.prog Try.f3 false true false false) := by
  refine returnsInHanded_of_change (C := Try.checked) own started (by kernel_rfl) Try.func3
    (ChangeSpec.witness6 (enc := enc) (C := Try.checked) false ⟨#[], #[.string ByteArray.empty], []⟩ 8 (by kernel_rfl) (by kernel_rfl) (by kernel_rfl) (by kernel_rfl)) ?_
  intro W base args ds gs before hval0 hW hcnd _
  have hval : ∀ (j : Nat) t v, Try.f3.params[j]? = some t → args[j]? = some v → Value.okWide Try.prog W .any base t v := hval0
  have hW' := hW
  obtain ⟨p, q, hA0, hV, rfl, hfz, hnd⟩ := hW
  have hA : DataW.TrodAll enc Try.prog W 0 (fun _ => true) true Try.f3.params.toList args.toList ds p := hA0
  rw [Try.params3] at hA hval
  obtain ⟨v0, vs0, d0, ds0, p0, q0, hargs, rfl, rfl, h0, r0⟩ := trodAll_cons hA
  obtain ⟨rfl, rfl, rfl⟩ := trodAll_nil r0
  obtain rfl : args = #[v0] := by cases args; simp_all
  obtain ⟨rfl, rfl⟩ := trodVars_none hV
  obtain ⟨a0, rfl, rfl, rfl, w0⟩ := open_string Try.underlying9 (hval 0 9 v0 rfl rfl) h0
  clear hA0 hval0
  simp only [List.append_nil] at hW'
  refine (walk a0 W w0).mono fun e W' ⟨he, bel⟩ => ?_
  subst he
  exact ⟨_, rfl, _, _, _, [], [], [], hW', trodAll_mk1 (shut_bool Try.underlying4 _), (trodAll_cons_mk (shut_string Try.underlying9 w0) trodAll_mk0), rfl, bel.frame _, fun h => by cases h⟩
theorem over : Rows.fnExactPartsOfContractRow.holds Try.pinned (OpenSpec.ofChange Rows.fnExactPartsOfContractSpec) :=
  OpenClaim.holds_of_wide 3 Try.f3 rfl rfl rfl rfl rfl rfl rfl ⟨rfl, rfl, rfl, rfl, rfl⟩ rfl rfl rfl rfl rfl (by kernel_rfl) Try.func3 (by kernel_rfl)
    (of_decide_eq_true (by kernel_rfl)) (by unfold Func.isWrapper; first | (rw [if_pos (by decide +kernel)]; kernel_rfl) | (rw [if_neg (by decide +kernel)]; exact ⟨rfl, rfl⟩))
    (fun os started H enc _ => lifted os started H enc)
end Go.Proofs.Ytmajmkggbgilbaa.fnExactPartsOfContract
namespace Go.Proofs.Ytmajmkggbgilbaa
theorem fnExactPartsOfContract_holds : Rows.FnExactPartsOfContractSaid := fnExactPartsOfContract.over
#print axioms fnExactPartsOfContract_holds
end Go.Proofs.Ytmajmkggbgilbaa
