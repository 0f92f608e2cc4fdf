/-
  For every input the law FnAngelDemon returns true: the angel's and the demon's choice over a relation and its turned one are adjoint, compose as relations do, are dual, and are equal for functions alone. No condition.
-/
import Derived.Test.YtmecagiadlimgaaRows
import Derived.Test.YtmecagiadlimgaaA14
import Derived.Test.YtmecagiadlimgaaA16
import Derived.Test.YtmecagiadlimgaaB5
import Derived.Test.YtmecagiadlimgaaRd9
import Derived.Test.YtmecagiadlimgaaQc
import Derived.WalkKit
import Derived.ProofKit
import Derived.OpenShut
import Derived.ShutString
import Derived.ChangeOld
import Derived.Below
namespace Go.Proofs.Ytmecagiadlimgaa.fnAngelDemon
open Go.ChangeShapes Go.WideShapes Go.ChangeAt Go.RowKit Go.DC
open Go.ChangeMaps (open_string shut_string)
set_option linter.unusedVariables false
set_option linter.unusedSimpArgs false
set_option maxHeartbeats 400000
theorem own : ownKnob Try.prog.godebug = none := by kernel_rfl
theorem laidOut : laidOutB Try.prog = true := by kernel_rfl
set_option maxRecDepth 100000 in
theorem walk (a0 : Option Addr) (len0 cap0 : Nat) (z0 : List Int) (a1 : Option Addr) (len1 cap1 : Nat) (z1 : List Int) (w : World) (w0 : IsRow .u8 w a0 len0 cap0 z0) (w1 : IsRow .u8 w a1 len1 cap1 z1) :
    Calls Try.prog 10 #[.slice a0 len0 cap0, .slice a1 len1 cap1] w fun e w' => e = .returned (.bool true) ∧ Below w.heap.size w w' := by
  by_cases hl : (1048576 : Int) < len0
  · clear w0 w1
    go_enter Try.func10, Try.ntmps10
    go_wp2_with fail
    go_ret
    exact ⟨rfl, Below.refl _ _⟩
  by_cases hl1 : (1048576 : Int) < len1
  · clear w0 w1
    go_enter Try.func10, Try.ntmps10
    go_wp2_with fail
    go_ret
    exact ⟨rfl, Below.refl _ _⟩
  have H0 := Lib.hid w0
  have H1 := Lib.hid w1
  clear w0 w1
  go_enter Try.func10, Try.ntmps10
  go_wp2_with fail
  refine (spec_DrawAngelTrans a0 len0 cap0 z0 w H0.out).mono ?_
  rintro e w2 ⟨r, hz, rfl, hB⟩
  have HB := Lib.hid hB
  clear hB H0
  have c1 := fun w => impl_AngelTrans r w
  have c2 := fun w => spec_AngelTrans r w (by unfold maxLen; omega)
  have c3 := fun w => impl_DemonTrans r w
  have c4 := fun w => spec_DemonTrans r w (by unfold maxLen; omega)
  clear hz
  cases hr : dvB 4 r
  case false =>
    rw [hr] at c1 c2 c3 c4
    rw [orNo_false] at c1 c2 c3 c4
    have C1 := Lib.hid c1
    clear c1
    have C2 := Lib.hid c2
    clear c2
    have C3 := Lib.hid c3
    clear c3
    have C4 := Lib.hid c4
    clear c4
    clear hr
    (go_wp2_with fail; refine (C1.out _).mono ?_; rintro e w' ⟨rfl, hb⟩; have HB := Lib.hid (bgo HB.out hb); clear hb)
    (go_wp2_with fail; refine (C2.out _).mono ?_; rintro e w' ⟨rfl, rfl⟩)
    (go_wp2_with fail; refine (C3.out _).mono ?_; rintro e w' ⟨rfl, hb⟩; have HB := Lib.hid (bgo HB.out hb); clear hb)
    (go_wp2_with fail; refine (C4.out _).mono ?_; rintro e w' ⟨rfl, rfl⟩)
    go_wp2_with fail
    go_ret
    exact ⟨rfl, HB.out⟩
  case true =>
    have hX := dvB_Dg hr
    have e4 : txt 16 (dual (angelT (dg r))) = txt 16 (demonT (dg r)) := txt_congr fun q hq => (demon_eq hX hq).symm
    rw [hr] at c1 c2 c3 c4
    rw [e4] at c4
    rw [orNo_true] at c1 c2 c3 c4
    have c5 := fun w => impl_TurnRel r w
    rw [hr, orNo_true] at c5
    have hTu := turn_Dg (dg r)
    have eB : txt 16 (demonT (dg (txt 4 (turn (dg r))))) = txt 16 (demonT (turn (dg r))) := txt_congr fun q hq => boxR_congr (dgt4 hTu) _
    have c6 := fun w => impl_DemonTrans (txt 4 (turn (dg r))) w
    rw [dvB_txt hTu, orNo_true, eB] at c6
    have hAt : Tr (angelT (dg r)) := Tr.angel hX
    have hBt : Tr (demonT (turn (dg r))) := Tr.demon hTu
    have dA := tvB_txt hAt
    have dB := tvB_txt hBt
    obtain ⟨V1, hV1⟩ : ∃ V1 : ByteArray → ByteArray, V1 = fun t => txt 16 (thenT (dg (txt 16 (angelT (dg r)))) (dg t)) := ⟨_, rfl⟩
    obtain ⟨V2, hV2⟩ : ∃ V2 : ByteArray → ByteArray, V2 = fun u => txt 16 (thenT (dg (txt 16 (demonT (turn (dg r))))) (dg u)) := ⟨_, rfl⟩
    have c7 : ∀ t, tvB t = true → ∀ w, Calls Try.prog 36 #[.string (txt 16 (angelT (dg r))), .string t] w fun e w' => e = .returned (.string (V1 t)) ∧ Below w.heap.size w w' := by
      intro t ht w
      have h := laws_dcThen (txt 16 (angelT (dg r))) t w
      rw [dA, ht, Bool.and_self, orNo_true] at h
      rw [hV1]; exact h
    have c8 : ∀ u, tvB u = true → ∀ w, Calls Try.prog 36 #[.string (txt 16 (demonT (turn (dg r)))), .string u] w fun e w' => e = .returned (.string (V2 u)) ∧ Below w.heap.size w w' := by
      intro t ht w
      have h := laws_dcThen (txt 16 (demonT (turn (dg r)))) t w
      rw [dB, ht, Bool.and_self, orNo_true] at h
      rw [hV2]; exact h
    obtain ⟨F, hF⟩ : ∃ F : ByteArray → ByteArray → Bool, F = fun t u => refB (thenT (angelT (dg r)) (dg t)) (dg u) := ⟨_, rfl⟩
    have rc : ∀ {x y x' y' : Nat → Int}, (∀ i, i < 16 → x i = x' i) → (∀ i, i < 16 → y i = y' i) → refB x y = refB x' y' := fun h1 h2 => by
      rw [Bool.eq_iff_iff, refB_iff, refB_iff]
      exact ⟨fun h k hk => by rw [← h1 k hk, ← h2 k hk]; exact h k hk, fun h k hk => by rw [h1 k hk, h2 k hk]; exact h k hk⟩
    have e1 : ∀ t, tvB t = true → V1 t = txt 16 (thenT (angelT (dg r)) (dg t)) := fun t ht => by
      rw [hV1]
      exact txt_congr fun q hq => dgt16 hAt.dg _ (by have := (tvB_Tr ht).dg q hq; omega)
    have e2 : ∀ t, tvB t = true → V2 t = txt 16 (thenT (demonT (turn (dg r))) (dg t)) := fun t ht => by
      rw [hV2]
      exact txt_congr fun q hq => dgt16 hBt.dg _ (by have := (tvB_Tr ht).dg q hq; omega)
    have c9 : ∀ t u, tvB t = true → tvB u = true → ∀ w, Calls Try.prog 49 #[.string (V1 t), .string u] w fun e w' => e = .returned (.bool (F t u)) ∧ Below w.heap.size w w' := by
      intro t u ht hu w
      have hd := hAt.then (tvB_Tr ht)
      have h := impl_RefinesTrans (V1 t) u w
      rw [e1 t ht] at h ⊢
      rw [tvB_txt hd, hu, Bool.and_self, Bool.true_and, rc (dgt16 hd.dg) (fun _ _ => rfl)] at h
      rw [hF]; exact h
    have c10 : ∀ t u, tvB t = true → tvB u = true → ∀ w, Calls Try.prog 49 #[.string t, .string (V2 u)] w fun e w' => e = .returned (.bool (F t u)) ∧ Below w.heap.size w w' := by
      intro t u ht hu w
      have hd := hBt.then (tvB_Tr hu)
      have h := impl_RefinesTrans t (V2 u) w
      rw [e2 u hu] at h ⊢
      rw [tvB_txt hd, ht, Bool.and_self, Bool.true_and, rc (fun _ _ => rfl) (dgt16 hd.dg), ← ad_ref hX (tvB_Tr ht) (tvB_Tr hu)] at h
      rw [hF]; exact h
    have c11 := fun t w => impl_TransValid t w
    have c12 := fun w (z : IsRow .u8 w a1 len1 cap1 z1) => spec_DrawRefinesTrans a1 len1 cap1 z1 w z
    have c13 := fun w (z : IsRow .u8 w a1 len1 cap1 z1) => spec_DrawTurnRel a1 len1 cap1 z1 w z
    have c14 := fun q w => impl_ComposeRel r q w
    simp only [hr, Bool.true_and] at c14
    obtain ⟨K, hK⟩ : ∃ K : ByteArray → ByteArray, K = fun q => txt 4 (thenR (dg r) (dg q)) := ⟨_, rfl⟩
    obtain ⟨AK, hAK⟩ : ∃ A : ByteArray → ByteArray, A = fun q => txt 16 (angelT (dg (K q))) := ⟨_, rfl⟩
    obtain ⟨DK, hDK⟩ : ∃ A : ByteArray → ByteArray, A = fun q => txt 16 (demonT (dg (K q))) := ⟨_, rfl⟩
    obtain ⟨AQ, hAQ⟩ : ∃ A : ByteArray → ByteArray, A = fun q => txt 16 (angelT (dg q)) := ⟨_, rfl⟩
    obtain ⟨DQ, hDQ⟩ : ∃ A : ByteArray → ByteArray, A = fun q => txt 16 (demonT (dg q)) := ⟨_, rfl⟩
    have c15 : ∀ q, dvB 4 q = true → ∀ w, Calls Try.prog 30 #[.string r, .string q] w fun e w' => e = .returned (.tuple #[.string (K q), .bool true]) ∧ Below w.heap.size w w' := by
      intro q hq w
      have h := c14 q w
      rw [hq, orNo_true] at h
      rw [hK]; exact h
    have c16 : ∀ q, dvB 4 q = false → ∀ w, Calls Try.prog 30 #[.string r, .string q] w fun e w' => e = .returned (.tuple #[.string ⟨#[]⟩, .bool false]) ∧ Below w.heap.size w w' := by
      intro q hq w
      have h := c14 q w
      rw [hq, orNo_false] at h
      exact h
    have dK : ∀ q, dvB 4 q = true → dvB 4 (K q) = true := fun q hq => by rw [hK]; exact dvB_txt (thenR_Dg _ (dvB_Dg hq))
    have c17 : ∀ q, dvB 4 q = true → ∀ w, Calls Try.prog 60 #[.string q] w fun e w' => e = .returned (.tuple #[.string (AQ q), .bool true]) ∧ Below w.heap.size w w' := by
      intro q hq w
      have h := impl_AngelTrans q w
      rw [hq, orNo_true] at h
      rw [hAQ]; exact h
    have c18 : ∀ q, dvB 4 q = true → ∀ w, Calls Try.prog 60 #[.string (K q)] w fun e w' => e = .returned (.tuple #[.string (AK q), .bool true]) ∧ Below w.heap.size w w' := by
      intro q hq w
      have h := impl_AngelTrans (K q) w
      rw [dK q hq, orNo_true] at h
      rw [hAK]; exact h
    have c19 : ∀ q, dvB 4 q = true → ∀ w, Calls Try.prog 62 #[.string q] w fun e w' => e = .returned (.tuple #[.string (DQ q), .bool true]) ∧ Below w.heap.size w w' := by
      intro q hq w
      have h := impl_DemonTrans q w
      rw [hq, orNo_true] at h
      rw [hDQ]; exact h
    have c20 : ∀ q, dvB 4 q = true → ∀ w, Calls Try.prog 62 #[.string (K q)] w fun e w' => e = .returned (.tuple #[.string (DK q), .bool true]) ∧ Below w.heap.size w w' := by
      intro q hq w
      have h := impl_DemonTrans (K q) w
      rw [dK q hq, orNo_true] at h
      rw [hDK]; exact h
    have c21 : ∀ q, dvB 4 q = true → ∀ w, Calls Try.prog 36 #[.string (txt 16 (angelT (dg r))), .string (AQ q)] w fun e w' => e = .returned (.string (AK q)) ∧ Below w.heap.size w w' := by
      intro q hq w
      have h := laws_dcThen (txt 16 (angelT (dg r))) (txt 16 (angelT (dg q))) w
      rw [dA, tvB_txt (Tr.angel (dvB_Dg hq)), Bool.and_self, orNo_true, ad_then hX (dvB_Dg hq)] at h
      rw [hAQ, hAK, hK]; exact h
    have c22 : ∀ q, dvB 4 q = true → ∀ w, Calls Try.prog 36 #[.string (txt 16 (demonT (dg r))), .string (DQ q)] w fun e w' => e = .returned (.string (DK q)) ∧ Below w.heap.size w w' := by
      intro q hq w
      have h := laws_dcThen (txt 16 (demonT (dg r))) (txt 16 (demonT (dg q))) w
      rw [tvB_txt (Tr.demon hX), tvB_txt (Tr.demon (dvB_Dg hq)), Bool.and_self, orNo_true, ad_thenD hX (dvB_Dg hq)] at h
      rw [hDQ, hDK, hK]; exact h
    have c23 := fun w => laws_dcDual (txt 16 (angelT (dg r))) w
    rw [dA, orNo_true, ad_dual hX] at c23
    have c24 := fun w => impl_IsFunction r w
    rw [hr, Bool.true_and] at c24
    have hsame := ad_same hX
    clear c14 dK e1 e2 rc hF hK hAK hDK hAQ hDQ hV1 hV2 dA dB hAt hBt e4 eB hTu hX hr
    generalize txt 16 (angelT (dg r)) = A at *
    generalize txt 16 (demonT (dg r)) = B at *
    generalize txt 16 (demonT (turn (dg r))) = BT at *
    generalize txt 4 (turn (dg r)) = R at *
    generalize funB (dg r) 4 = f at *
    have HS := Lib.hid hsame
    clear hsame
    have C1 := Lib.hid c1
    clear c1
    have C2 := Lib.hid c2
    clear c2
    have C3 := Lib.hid c3
    clear c3
    have C4 := Lib.hid c4
    clear c4
    have C5 := Lib.hid c5
    clear c5
    have C6 := Lib.hid c6
    clear c6
    have C7 := Lib.hid c7
    clear c7
    have C8 := Lib.hid c8
    clear c8
    have C9 := Lib.hid c9
    clear c9
    have C10 := Lib.hid c10
    clear c10
    have C11 := Lib.hid c11
    clear c11
    have C12 := Lib.hid c12
    clear c12
    have C13 := Lib.hid c13
    clear c13
    have C15 := Lib.hid c15
    clear c15
    have C16 := Lib.hid c16
    clear c16
    have C17 := Lib.hid c17
    clear c17
    have C18 := Lib.hid c18
    clear c18
    have C19 := Lib.hid c19
    clear c19
    have C20 := Lib.hid c20
    clear c20
    have C21 := Lib.hid c21
    clear c21
    have C22 := Lib.hid c22
    clear c22
    have C23 := Lib.hid c23
    clear c23
    have C24 := Lib.hid c24
    clear c24
    (go_wp2_with fail; refine (C1.out _).mono ?_; rintro e w' ⟨rfl, hb⟩; have HB := Lib.hid (bgo HB.out hb); clear hb)
    (go_wp2_with fail; refine (C2.out _).mono ?_; rintro e w' ⟨rfl, rfl⟩)
    (go_wp2_with fail; refine (C3.out _).mono ?_; rintro e w' ⟨rfl, hb⟩; have HB := Lib.hid (bgo HB.out hb); clear hb)
    (go_wp2_with fail; refine (C4.out _).mono ?_; rintro e w' ⟨rfl, rfl⟩)
    (go_wp2_with fail; refine (C5.out _).mono ?_; rintro e w' ⟨rfl, hb⟩; have HB := Lib.hid (bgo HB.out hb); clear hb)
    (go_wp2_with fail; refine (C6.out _).mono ?_; rintro e w' ⟨rfl, hb⟩; have HB := Lib.hid (bgo HB.out hb); clear hb)
    go_wp2_with fail
    refine (C12.out _ (Go.Proofs.Ytmecagiadlimgaa.IsRow.go H1.out HB.out)).mono ?_
    rintro e w3 ⟨t, u, hz, hz2, rfl, hb⟩
    have HB := Lib.hid (bgo HB.out hb)
    clear hb hz hz2
    have A11 := Lib.hid (C11.out t)
    have B11 := Lib.hid (C11.out u)
    cases ht : tvB t
    case false =>
      rw [ht] at A11
      (go_wp2_with fail; refine (A11.out _).mono ?_; rintro e w' ⟨rfl, hb⟩; have HB := Lib.hid (bgo HB.out hb); clear hb)
      go_wp2_with fail
      refine (C13.out _ (Go.Proofs.Ytmecagiadlimgaa.IsRow.go H1.out HB.out)).mono ?_
      rintro e w4 ⟨q, hz, rfl, hb⟩
      have HB := Lib.hid (bgo HB.out hb)
      clear hb hz
      cases hq : dvB 4 q
      case false =>
        have A16 := Lib.hid (C16.out q hq)
        clear C15 C16 C17 C18 C19 C20 C21 C22
        cases f
        · have n1 : (A.toList == B.toList) = false := by rw [eq_text]; exact decide_eq_false fun h => by cases HS.out.1 h
          (go_wp2_with fail; refine (A16.out _).mono ?_; rintro e w' ⟨rfl, hb⟩; have HB := Lib.hid (bgo HB.out hb); clear hb)
          (go_wp2_with fail; refine (C23.out _).mono ?_; rintro e w' ⟨rfl, hb⟩; have HB := Lib.hid (bgo HB.out hb); clear hb)
          (go_wp2_with fail; refine (C24.out _).mono ?_; rintro e w' ⟨rfl, hb⟩; have HB := Lib.hid (bgo HB.out hb); clear hb)
          go_wp2_with fail
          go_ret
          exact ⟨rfl, HB.out⟩
        · obtain rfl : A = B := HS.out.2 rfl
          (go_wp2_with fail; refine (A16.out _).mono ?_; rintro e w' ⟨rfl, hb⟩; have HB := Lib.hid (bgo HB.out hb); clear hb)
          (go_wp2_with fail; refine (C23.out _).mono ?_; rintro e w' ⟨rfl, hb⟩; have HB := Lib.hid (bgo HB.out hb); clear hb)
          (go_wp2_with fail; refine (C24.out _).mono ?_; rintro e w' ⟨rfl, hb⟩; have HB := Lib.hid (bgo HB.out hb); clear hb)
          go_wp2_with fail
          go_ret
          exact ⟨rfl, HB.out⟩
      case true =>
        have A15 := Lib.hid (C15.out q hq)
        have A17 := Lib.hid (C17.out q hq)
        have A18 := Lib.hid (C18.out q hq)
        have A19 := Lib.hid (C19.out q hq)
        have A20 := Lib.hid (C20.out q hq)
        have A21 := Lib.hid (C21.out q hq)
        have A22 := Lib.hid (C22.out q hq)
        clear C15 C16 C17 C18 C19 C20 C21 C22
        cases f
        · have n1 : (A.toList == B.toList) = false := by rw [eq_text]; exact decide_eq_false fun h => by cases HS.out.1 h
          (go_wp2_with fail; refine (A15.out _).mono ?_; rintro e w' ⟨rfl, hb⟩; have HB := Lib.hid (bgo HB.out hb); clear hb)
          (go_wp2_with fail; refine (A17.out _).mono ?_; rintro e w' ⟨rfl, hb⟩; have HB := Lib.hid (bgo HB.out hb); clear hb)
          (go_wp2_with fail; refine (A18.out _).mono ?_; rintro e w' ⟨rfl, hb⟩; have HB := Lib.hid (bgo HB.out hb); clear hb)
          (go_wp2_with fail; refine (A19.out _).mono ?_; rintro e w' ⟨rfl, hb⟩; have HB := Lib.hid (bgo HB.out hb); clear hb)
          (go_wp2_with fail; refine (A20.out _).mono ?_; rintro e w' ⟨rfl, hb⟩; have HB := Lib.hid (bgo HB.out hb); clear hb)
          (go_wp2_with fail; refine (A21.out _).mono ?_; rintro e w' ⟨rfl, hb⟩; have HB := Lib.hid (bgo HB.out hb); clear hb)
          (go_wp2_with fail; refine (A22.out _).mono ?_; rintro e w' ⟨rfl, hb⟩; have HB := Lib.hid (bgo HB.out hb); clear hb)
          (go_wp2_with fail; refine (C23.out _).mono ?_; rintro e w' ⟨rfl, hb⟩; have HB := Lib.hid (bgo HB.out hb); clear hb)
          (go_wp2_with fail; refine (C24.out _).mono ?_; rintro e w' ⟨rfl, hb⟩; have HB := Lib.hid (bgo HB.out hb); clear hb)
          go_wp2_with fail
          go_ret
          exact ⟨rfl, HB.out⟩
        · obtain rfl : A = B := HS.out.2 rfl
          (go_wp2_with fail; refine (A15.out _).mono ?_; rintro e w' ⟨rfl, hb⟩; have HB := Lib.hid (bgo HB.out hb); clear hb)
          (go_wp2_with fail; refine (A17.out _).mono ?_; rintro e w' ⟨rfl, hb⟩; have HB := Lib.hid (bgo HB.out hb); clear hb)
          (go_wp2_with fail; refine (A18.out _).mono ?_; rintro e w' ⟨rfl, hb⟩; have HB := Lib.hid (bgo HB.out hb); clear hb)
          (go_wp2_with fail; refine (A19.out _).mono ?_; rintro e w' ⟨rfl, hb⟩; have HB := Lib.hid (bgo HB.out hb); clear hb)
          (go_wp2_with fail; refine (A20.out _).mono ?_; rintro e w' ⟨rfl, hb⟩; have HB := Lib.hid (bgo HB.out hb); clear hb)
          (go_wp2_with fail; refine (A21.out _).mono ?_; rintro e w' ⟨rfl, hb⟩; have HB := Lib.hid (bgo HB.out hb); clear hb)
          (go_wp2_with fail; refine (A22.out _).mono ?_; rintro e w' ⟨rfl, hb⟩; have HB := Lib.hid (bgo HB.out hb); clear hb)
          (go_wp2_with fail; refine (C23.out _).mono ?_; rintro e w' ⟨rfl, hb⟩; have HB := Lib.hid (bgo HB.out hb); clear hb)
          (go_wp2_with fail; refine (C24.out _).mono ?_; rintro e w' ⟨rfl, hb⟩; have HB := Lib.hid (bgo HB.out hb); clear hb)
          go_wp2_with fail
          go_ret
          exact ⟨rfl, HB.out⟩
    case true =>
      rw [ht] at A11
      (go_wp2_with fail; refine (A11.out _).mono ?_; rintro e w' ⟨rfl, hb⟩; have HB := Lib.hid (bgo HB.out hb); clear hb)
      cases hu : tvB u
      case false =>
        rw [hu] at B11
        (go_wp2_with fail; refine (B11.out _).mono ?_; rintro e w' ⟨rfl, hb⟩; have HB := Lib.hid (bgo HB.out hb); clear hb)
        go_wp2_with fail
        refine (C13.out _ (Go.Proofs.Ytmecagiadlimgaa.IsRow.go H1.out HB.out)).mono ?_
        rintro e w4 ⟨q, hz, rfl, hb⟩
        have HB := Lib.hid (bgo HB.out hb)
        clear hb hz
        cases hq : dvB 4 q
        case false =>
          have A16 := Lib.hid (C16.out q hq)
          clear C15 C16 C17 C18 C19 C20 C21 C22
          cases f
          · have n1 : (A.toList == B.toList) = false := by rw [eq_text]; exact decide_eq_false fun h => by cases HS.out.1 h
            (go_wp2_with fail; refine (A16.out _).mono ?_; rintro e w' ⟨rfl, hb⟩; have HB := Lib.hid (bgo HB.out hb); clear hb)
            (go_wp2_with fail; refine (C23.out _).mono ?_; rintro e w' ⟨rfl, hb⟩; have HB := Lib.hid (bgo HB.out hb); clear hb)
            (go_wp2_with fail; refine (C24.out _).mono ?_; rintro e w' ⟨rfl, hb⟩; have HB := Lib.hid (bgo HB.out hb); clear hb)
            go_wp2_with fail
            go_ret
            exact ⟨rfl, HB.out⟩
          · obtain rfl : A = B := HS.out.2 rfl
            (go_wp2_with fail; refine (A16.out _).mono ?_; rintro e w' ⟨rfl, hb⟩; have HB := Lib.hid (bgo HB.out hb); clear hb)
            (go_wp2_with fail; refine (C23.out _).mono ?_; rintro e w' ⟨rfl, hb⟩; have HB := Lib.hid (bgo HB.out hb); clear hb)
            (go_wp2_with fail; refine (C24.out _).mono ?_; rintro e w' ⟨rfl, hb⟩; have HB := Lib.hid (bgo HB.out hb); clear hb)
            go_wp2_with fail
            go_ret
            exact ⟨rfl, HB.out⟩
        case true =>
          have A15 := Lib.hid (C15.out q hq)
          have A17 := Lib.hid (C17.out q hq)
          have A18 := Lib.hid (C18.out q hq)
          have A19 := Lib.hid (C19.out q hq)
          have A20 := Lib.hid (C20.out q hq)
          have A21 := Lib.hid (C21.out q hq)
          have A22 := Lib.hid (C22.out q hq)
          clear C15 C16 C17 C18 C19 C20 C21 C22
          cases f
          · have n1 : (A.toList == B.toList) = false := by rw [eq_text]; exact decide_eq_false fun h => by cases HS.out.1 h
            (go_wp2_with fail; refine (A15.out _).mono ?_; rintro e w' ⟨rfl, hb⟩; have HB := Lib.hid (bgo HB.out hb); clear hb)
            (go_wp2_with fail; refine (A17.out _).mono ?_; rintro e w' ⟨rfl, hb⟩; have HB := Lib.hid (bgo HB.out hb); clear hb)
            (go_wp2_with fail; refine (A18.out _).mono ?_; rintro e w' ⟨rfl, hb⟩; have HB := Lib.hid (bgo HB.out hb); clear hb)
            (go_wp2_with fail; refine (A19.out _).mono ?_; rintro e w' ⟨rfl, hb⟩; have HB := Lib.hid (bgo HB.out hb); clear hb)
            (go_wp2_with fail; refine (A20.out _).mono ?_; rintro e w' ⟨rfl, hb⟩; have HB := Lib.hid (bgo HB.out hb); clear hb)
            (go_wp2_with fail; refine (A21.out _).mono ?_; rintro e w' ⟨rfl, hb⟩; have HB := Lib.hid (bgo HB.out hb); clear hb)
            (go_wp2_with fail; refine (A22.out _).mono ?_; rintro e w' ⟨rfl, hb⟩; have HB := Lib.hid (bgo HB.out hb); clear hb)
            (go_wp2_with fail; refine (C23.out _).mono ?_; rintro e w' ⟨rfl, hb⟩; have HB := Lib.hid (bgo HB.out hb); clear hb)
            (go_wp2_with fail; refine (C24.out _).mono ?_; rintro e w' ⟨rfl, hb⟩; have HB := Lib.hid (bgo HB.out hb); clear hb)
            go_wp2_with fail
            go_ret
            exact ⟨rfl, HB.out⟩
          · obtain rfl : A = B := HS.out.2 rfl
            (go_wp2_with fail; refine (A15.out _).mono ?_; rintro e w' ⟨rfl, hb⟩; have HB := Lib.hid (bgo HB.out hb); clear hb)
            (go_wp2_with fail; refine (A17.out _).mono ?_; rintro e w' ⟨rfl, hb⟩; have HB := Lib.hid (bgo HB.out hb); clear hb)
            (go_wp2_with fail; refine (A18.out _).mono ?_; rintro e w' ⟨rfl, hb⟩; have HB := Lib.hid (bgo HB.out hb); clear hb)
            (go_wp2_with fail; refine (A19.out _).mono ?_; rintro e w' ⟨rfl, hb⟩; have HB := Lib.hid (bgo HB.out hb); clear hb)
            (go_wp2_with fail; refine (A20.out _).mono ?_; rintro e w' ⟨rfl, hb⟩; have HB := Lib.hid (bgo HB.out hb); clear hb)
            (go_wp2_with fail; refine (A21.out _).mono ?_; rintro e w' ⟨rfl, hb⟩; have HB := Lib.hid (bgo HB.out hb); clear hb)
            (go_wp2_with fail; refine (A22.out _).mono ?_; rintro e w' ⟨rfl, hb⟩; have HB := Lib.hid (bgo HB.out hb); clear hb)
            (go_wp2_with fail; refine (C23.out _).mono ?_; rintro e w' ⟨rfl, hb⟩; have HB := Lib.hid (bgo HB.out hb); clear hb)
            (go_wp2_with fail; refine (C24.out _).mono ?_; rintro e w' ⟨rfl, hb⟩; have HB := Lib.hid (bgo HB.out hb); clear hb)
            go_wp2_with fail
            go_ret
            exact ⟨rfl, HB.out⟩
      case true =>
        rw [hu] at B11
        have A7 := Lib.hid (C7.out t ht)
        have A8 := Lib.hid (C8.out u hu)
        have A9 := Lib.hid (C9.out t u ht hu)
        have A10 := Lib.hid (C10.out t u ht hu)
        clear C7 C8 C9 C10
        (go_wp2_with fail; refine (B11.out _).mono ?_; rintro e w' ⟨rfl, hb⟩; have HB := Lib.hid (bgo HB.out hb); clear hb)
        (go_wp2_with fail; refine (A7.out _).mono ?_; rintro e w' ⟨rfl, hb⟩; have HB := Lib.hid (bgo HB.out hb); clear hb)
        (go_wp2_with fail; refine (A9.out _).mono ?_; rintro e w' ⟨rfl, hb⟩; have HB := Lib.hid (bgo HB.out hb); clear hb)
        (go_wp2_with fail; refine (A8.out _).mono ?_; rintro e w' ⟨rfl, hb⟩; have HB := Lib.hid (bgo HB.out hb); clear hb)
        (go_wp2_with fail; refine (A10.out _).mono ?_; rintro e w' ⟨rfl, hb⟩; have HB := Lib.hid (bgo HB.out hb); clear hb)
        go_wp2_with fail
        refine (C13.out _ (Go.Proofs.Ytmecagiadlimgaa.IsRow.go H1.out HB.out)).mono ?_
        rintro e w4 ⟨q, hz, rfl, hb⟩
        have HB := Lib.hid (bgo HB.out hb)
        clear hb hz
        cases hq : dvB 4 q
        case false =>
          have A16 := Lib.hid (C16.out q hq)
          clear C15 C16 C17 C18 C19 C20 C21 C22
          cases f
          · have n1 : (A.toList == B.toList) = false := by rw [eq_text]; exact decide_eq_false fun h => by cases HS.out.1 h
            (go_wp2_with fail; refine (A16.out _).mono ?_; rintro e w' ⟨rfl, hb⟩; have HB := Lib.hid (bgo HB.out hb); clear hb)
            (go_wp2_with fail; refine (C23.out _).mono ?_; rintro e w' ⟨rfl, hb⟩; have HB := Lib.hid (bgo HB.out hb); clear hb)
            (go_wp2_with fail; refine (C24.out _).mono ?_; rintro e w' ⟨rfl, hb⟩; have HB := Lib.hid (bgo HB.out hb); clear hb)
            go_wp2_with fail
            go_ret
            exact ⟨rfl, HB.out⟩
          · obtain rfl : A = B := HS.out.2 rfl
            (go_wp2_with fail; refine (A16.out _).mono ?_; rintro e w' ⟨rfl, hb⟩; have HB := Lib.hid (bgo HB.out hb); clear hb)
            (go_wp2_with fail; refine (C23.out _).mono ?_; rintro e w' ⟨rfl, hb⟩; have HB := Lib.hid (bgo HB.out hb); clear hb)
            (go_wp2_with fail; refine (C24.out _).mono ?_; rintro e w' ⟨rfl, hb⟩; have HB := Lib.hid (bgo HB.out hb); clear hb)
            go_wp2_with fail
            go_ret
            exact ⟨rfl, HB.out⟩
        case true =>
          have A15 := Lib.hid (C15.out q hq)
          have A17 := Lib.hid (C17.out q hq)
          have A18 := Lib.hid (C18.out q hq)
          have A19 := Lib.hid (C19.out q hq)
          have A20 := Lib.hid (C20.out q hq)
          have A21 := Lib.hid (C21.out q hq)
          have A22 := Lib.hid (C22.out q hq)
          clear C15 C16 C17 C18 C19 C20 C21 C22
          cases f
          · have n1 : (A.toList == B.toList) = false := by rw [eq_text]; exact decide_eq_false fun h => by cases HS.out.1 h
            (go_wp2_with fail; refine (A15.out _).mono ?_; rintro e w' ⟨rfl, hb⟩; have HB := Lib.hid (bgo HB.out hb); clear hb)
            (go_wp2_with fail; refine (A17.out _).mono ?_; rintro e w' ⟨rfl, hb⟩; have HB := Lib.hid (bgo HB.out hb); clear hb)
            (go_wp2_with fail; refine (A18.out _).mono ?_; rintro e w' ⟨rfl, hb⟩; have HB := Lib.hid (bgo HB.out hb); clear hb)
            (go_wp2_with fail; refine (A19.out _).mono ?_; rintro e w' ⟨rfl, hb⟩; have HB := Lib.hid (bgo HB.out hb); clear hb)
            (go_wp2_with fail; refine (A20.out _).mono ?_; rintro e w' ⟨rfl, hb⟩; have HB := Lib.hid (bgo HB.out hb); clear hb)
            (go_wp2_with fail; refine (A21.out _).mono ?_; rintro e w' ⟨rfl, hb⟩; have HB := Lib.hid (bgo HB.out hb); clear hb)
            (go_wp2_with fail; refine (A22.out _).mono ?_; rintro e w' ⟨rfl, hb⟩; have HB := Lib.hid (bgo HB.out hb); clear hb)
            (go_wp2_with fail; refine (C23.out _).mono ?_; rintro e w' ⟨rfl, hb⟩; have HB := Lib.hid (bgo HB.out hb); clear hb)
            (go_wp2_with fail; refine (C24.out _).mono ?_; rintro e w' ⟨rfl, hb⟩; have HB := Lib.hid (bgo HB.out hb); clear hb)
            go_wp2_with fail
            go_ret
            exact ⟨rfl, HB.out⟩
          · obtain rfl : A = B := HS.out.2 rfl
            (go_wp2_with fail; refine (A15.out _).mono ?_; rintro e w' ⟨rfl, hb⟩; have HB := Lib.hid (bgo HB.out hb); clear hb)
            (go_wp2_with fail; refine (A17.out _).mono ?_; rintro e w' ⟨rfl, hb⟩; have HB := Lib.hid (bgo HB.out hb); clear hb)
            (go_wp2_with fail; refine (A18.out _).mono ?_; rintro e w' ⟨rfl, hb⟩; have HB := Lib.hid (bgo HB.out hb); clear hb)
            (go_wp2_with fail; refine (A19.out _).mono ?_; rintro e w' ⟨rfl, hb⟩; have HB := Lib.hid (bgo HB.out hb); clear hb)
            (go_wp2_with fail; refine (A20.out _).mono ?_; rintro e w' ⟨rfl, hb⟩; have HB := Lib.hid (bgo HB.out hb); clear hb)
            (go_wp2_with fail; refine (A21.out _).mono ?_; rintro e w' ⟨rfl, hb⟩; have HB := Lib.hid (bgo HB.out hb); clear hb)
            (go_wp2_with fail; refine (A22.out _).mono ?_; rintro e w' ⟨rfl, hb⟩; have HB := Lib.hid (bgo HB.out hb); clear hb)
            (go_wp2_with fail; refine (C23.out _).mono ?_; rintro e w' ⟨rfl, hb⟩; have HB := Lib.hid (bgo HB.out hb); clear hb)
            (go_wp2_with fail; refine (C24.out _).mono ?_; rintro e w' ⟨rfl, hb⟩; have HB := Lib.hid (bgo HB.out hb); clear hb)
            go_wp2_with fail
            go_ret
            exact ⟨rfl, HB.out⟩
set_option maxRecDepth 100000 in
theorem lifted (os : Os) (started : os.Started) (H : Type) (enc : TypeId × Value → H) :
    ReturnsInHanded {} Try.checked os 10 .any (Rows.fnAngelDemonSpec.pre6 enc Try.prog Try.f10 Rows.fnAngelDemonRow.domain false) (Rows.fnAngelDemonSpec.post enc Try.prog Try.f10 false true false false) := by
  refine returnsInHanded_of_change (C := Try.checked) own started (by kernel_rfl) Try.func10
    (ChangeSpec.witness6 (enc := enc) (C := Try.checked) false ⟨#[], #[.slice none 0 0, .slice none 0 0], []⟩ 8 (by kernel_rfl) (by kernel_rfl) (by kernel_rfl) (by kernel_rfl)) ?_
  intro W base args ds gs before hval0 hW hcnd _
  have hval : ∀ (j : Nat) t v, Try.f10.params[j]? = some t → args[j]? = some v → Value.okWide Try.prog W .any base t v := hval0
  have hW' := hW
  obtain ⟨p, q, hA0, hV, rfl, hfz, hnd⟩ := hW
  have hA : DataW.TrodAll enc Try.prog W 0 (fun _ => true) true Try.f10.params.toList args.toList ds p := hA0
  rw [Try.params10] at hA hval
  obtain ⟨v0, vs0, d0, ds0, p0, q0, hargs, rfl, rfl, h0, r0⟩ := trodAll_cons hA
  obtain ⟨v1, vs1, d1, ds1, p1, q1, rfl, rfl, rfl, h1, r1⟩ := trodAll_cons r0
  obtain ⟨rfl, rfl, rfl⟩ := trodAll_nil r1
  obtain rfl : args = #[v0, v1] := by cases args; simp_all
  obtain ⟨rfl, rfl⟩ := trodVars_none hV
  obtain ⟨a0, len0, cap0, rfl⟩ := okWide_slice Try.underlying22 (hval 0 22 v0 rfl rfl)
  have k0 := h0
  have lt0 : ∀ x ∈ p0, x.block < W.heap.size := by obtain ⟨m, hm⟩ := k0; exact DataW.trod_lt m _ _ _ hm
  obtain ⟨z0, w0⟩ : ∃ zs, IsRow .u8 W a0 len0 cap0 zs := by
    obtain ⟨fuel, hf⟩ := h0
    rcases open_ints Try.underlying22 Try.underlying5 (by kernel_rfl) hf with ⟨hcs, _⟩ | ⟨x, l, c, zs, hcs, _, hl, hm, hz, _, hcell, hwz⟩
    · simp [Value.cells] at hcs
      obtain ⟨rfl, rfl, rfl⟩ := hcs
      exact ⟨[], .inl ⟨rfl, rfl, rfl, rfl⟩⟩
    · simp [Value.cells] at hcs
      obtain ⟨rfl, rfl, rfl⟩ := hcs
      exact ⟨zs, .inr ⟨_, rfl, hl, hm, by simpa using hz, hcell, hwz⟩⟩
  obtain ⟨a1, len1, cap1, rfl⟩ := okWide_slice Try.underlying22 (hval 1 22 v1 rfl rfl)
  have k1 := h1
  have lt1 : ∀ x ∈ p1, x.block < W.heap.size := by obtain ⟨m, hm⟩ := k1; exact DataW.trod_lt m _ _ _ hm
  obtain ⟨z1, w1⟩ : ∃ zs, IsRow .u8 W a1 len1 cap1 zs := by
    obtain ⟨fuel, hf⟩ := h1
    rcases open_ints Try.underlying22 Try.underlying5 (by kernel_rfl) hf with ⟨hcs, _⟩ | ⟨x, l, c, zs, hcs, _, hl, hm, hz, _, hcell, hwz⟩
    · simp [Value.cells] at hcs
      obtain ⟨rfl, rfl, rfl⟩ := hcs
      exact ⟨[], .inl ⟨rfl, rfl, rfl, rfl⟩⟩
    · simp [Value.cells] at hcs
      obtain ⟨rfl, rfl, rfl⟩ := hcs
      exact ⟨zs, .inr ⟨_, rfl, hl, hm, by simpa using hz, hcell, hwz⟩⟩
  clear hA0 hval0
  refine (walk a0 len0 cap0 z0 a1 len1 cap1 z1 W w0 w1).mono fun e W' ⟨he, bel⟩ => ?_
  subst he
  exact ⟨_, rfl, _, _, _, [], _, [], hW', trodAll_mk1 (shut_bool Try.underlying4 _), (trodAll_cons_mk (Below.trod laidOut (by kernel_rfl) (of_decide_eq_true (by kernel_rfl)) k0 bel lt0) (trodAll_cons_mk (Below.trod laidOut (by kernel_rfl) (of_decide_eq_true (by kernel_rfl)) k1 bel lt1) trodAll_mk0)), rfl, bel.frame _, fun h => by cases h⟩
theorem over : Rows.fnAngelDemonRow.holds Try.pinned (OpenSpec.ofChange Rows.fnAngelDemonSpec) :=
  OpenClaim.holds_of_wide 10 Try.f10 rfl rfl rfl rfl rfl rfl rfl ⟨rfl, rfl, rfl, rfl, rfl⟩ rfl rfl rfl rfl rfl (by kernel_rfl) Try.func10 (by kernel_rfl)
    (of_decide_eq_true (by kernel_rfl)) (by unfold Func.isWrapper; first | (rw [if_pos (by decide +kernel)]; kernel_rfl) | (rw [if_neg (by decide +kernel)]; exact ⟨rfl, rfl⟩))
    (fun os started H enc _ => lifted os started H enc)
end Go.Proofs.Ytmecagiadlimgaa.fnAngelDemon
namespace Go.Proofs.Ytmecagiadlimgaa
theorem fnAngelDemon_holds : Rows.FnAngelDemonSaid := fnAngelDemon.over
#print axioms fnAngelDemon_holds
end Go.Proofs.Ytmecagiadlimgaa
