/-
  Contracts of the draws of transformers, third part.
-/
import Derived.Test.YtmecagiadlimgaaRd7
import Derived.Test.YtmecagiadlimgaaB3
import Derived.Lib.SmallJoins
namespace Go.Proofs.Ytmecagiadlimgaa
open Go.RowKit Go.DC
set_option maxHeartbeats 2000000
set_option linter.unusedVariables false
set_option linter.unusedSimpArgs false
theorem infoI : (Try.prog.info? 3).map (fun i => (i.zero, i.size, i.bytes)) = some (some (.int .i64 0), 1, 8) := by kernel_rfl
/-- The list that grows, of n families. -/
def OwnF (B n : Nat) (w : World) (v : Value) : Prop := ∃ (xs : List Int) (g cap : Nat), xs.length = n ∧ (∀ x ∈ xs, 0 ≤ x ∧ x ≤ 65535) ∧ v = .slice (some ⟨g, 0, none⟩) n cap ∧ w.ownsRow B 3 1 v n (xs.map (Value.int .i64))
theorem OwnF.els {B n b : Nat} {w w' : World} {v : Value} (h : OwnF B n w v) (hE : Els b w w') (hb : b < B) : OwnF B n w' v := by
  obtain ⟨xs, g, cap, h1, h2, h3, h4⟩ := h
  exact ⟨xs, g, cap, h1, h2, h3, Go.DC.World.ownsRow.els h4 hE hb⟩
theorem OwnF.fams {B : Nat} {w : World} {v : Value} (h : OwnF B 4 w v) : ∃ (g cap : Nat) (z : Nat → Int), v = .slice (some ⟨g, 0, none⟩) 4 cap ∧ Fams w g z := by
  obtain ⟨xs, g, cap, h1, h2, rfl, h4⟩ := h
  refine ⟨g, cap, fun i => xs.getD i 0, rfl, fun i hi => ?_⟩
  have hi' : i < xs.length := by omega
  have := h4.cells (g := g) rfl i (.int .i64 (xs.getD i 0)) (by simp [hi'])
  have hadd : (⟨g, 0, none⟩ : Addr).add i = ⟨g, i, none⟩ := by unfold Addr.add; split <;> simp_all
  rw [hadd] at this
  exact ⟨this, h2 _ (by simp [List.getD, List.getElem?_eq_getElem hi'])⟩
theorem kind5 {k : Int} (h0 : 0 ≤ k) : k = 0 ∨ k = 1 ∨ k = 2 ∨ k = 3 ∨ (¬ k = 0 ∧ ¬ k = 1 ∧ ¬ k = 2 ∧ ¬ k = 3) := by omega
theorem dgT {x : Nat → Int} (h : Dg 16 x) : 16 ≤ (txt 16 x).size ∧ Dg 16 (dg (txt 16 x)) := ⟨by rw [txt_size]; exact Nat.le_refl _, dg_txt_Dg h⟩
set_option maxRecDepth 100000 in
theorem spec_l3Some (b p : Nat) (w : World) (hr : Rd w b p) (hp : p ≤ 990000) :
    Calls Try.prog 155 #[.pointer (some ⟨b, 0, none⟩)] w (DrewT b p 40 (IsDg 16) w) := by
  obtain ⟨i0, hi, hz0, hz1, hz2⟩ := info_parts infoI
  go_enter Try.func155, Try.ntmps155
  go_wp2_with fail
  refine (spec_pick b p 6 _ hr (by omega) (by omega) (by omega)).mono ?_
  rintro e w1 ⟨kind, hk0, hk1, rfl, hR, hE⟩
  have HR := Lib.hid hR
  have HE := Lib.hid hE
  clear hR hE hr
  rcases kind5 hk0 with rfl | rfl | rfl | rfl | ⟨hn0, hn1, hn2, hn3⟩
  · go_wp2_with fail
    refine (spec_l2Some b (p + 1) _ HR.out (by omega)).mono ?_
    rintro e w2 ⟨r, q, hs, hq, rfl, hR2, hE2⟩
    have HR2 := Lib.hid hR2
    have HE2 := Lib.hid (HE.out.trans hE2)
    have Hs := Lib.hid hs
    clear hR2 hE2 hs
    go_wp2_with fail
    refine (spec_l3Angel r _ (by have := Hs.out.size; omega)).mono ?_
    rintro e w' ⟨rfl, rfl⟩
    go_wp2_with fail
    exact bodyPost_ret (results_tmp rfl _ _ _) rfl ⟨_, q, ⟨_, angelT_Dg _ 16, rfl⟩, by omega, rfl, HR2.out, HE2.out⟩
  · go_wp2_with fail
    refine (spec_l2Some b (p + 1) _ HR.out (by omega)).mono ?_
    rintro e w2 ⟨r, q, hs, hq, rfl, hR2, hE2⟩
    have HR2 := Lib.hid hR2
    have HE2 := Lib.hid (HE.out.trans hE2)
    have Hs := Lib.hid hs
    clear hR2 hE2 hs
    go_wp2_with fail
    refine (spec_l3Angel r _ (by have := Hs.out.size; omega)).mono ?_
    rintro e w' ⟨rfl, rfl⟩
    go_wp2_with fail
    refine (spec_l3Dual _ _ (dgT (angelT_Dg _ 16)).1 (dgT (angelT_Dg _ 16)).2).mono ?_
    rintro e w' ⟨rfl, rfl⟩
    go_wp2_with fail
    exact bodyPost_ret (results_tmp rfl _ _ _) rfl ⟨_, q, ⟨_, dual_Dg (dgT (angelT_Dg _ 16)).2, rfl⟩, by omega, rfl, HR2.out, HE2.out⟩
  · go_wp2_with fail
    refine (spec_l2Some b (p + 1) _ HR.out (by omega)).mono ?_
    rintro e w2 ⟨r, q, hs, hq, rfl, hR2, hE2⟩
    have HR2 := Lib.hid hR2
    have HE2 := Lib.hid (HE.out.trans hE2)
    have Hs := Lib.hid hs
    clear hR2 hE2 hs
    go_wp2_with fail
    refine (spec_l3Angel r _ (by have := Hs.out.size; omega)).mono ?_
    rintro e w' ⟨rfl, rfl⟩
    go_wp2_with fail
    refine (spec_l2Some b q _ HR2.out (by omega)).mono ?_
    rintro e w3 ⟨r3, q3, hs3, hq3, rfl, hR3, hE3⟩
    have HR3 := Lib.hid hR3
    have HE3 := Lib.hid (HE2.out.trans hE3)
    have Hs3 := Lib.hid hs3
    clear hR3 hE3 hs3
    go_wp2_with fail
    refine (spec_l3Angel r3 _ (by have := Hs3.out.size; omega)).mono ?_
    rintro e w' ⟨rfl, rfl⟩
    go_wp2_with fail
    refine (spec_l3Dual _ _ (dgT (angelT_Dg _ 16)).1 (dgT (angelT_Dg _ 16)).2).mono ?_
    rintro e w' ⟨rfl, rfl⟩
    go_wp2_with fail
    refine (spec_l3Then _ _ _ (dgT (angelT_Dg _ 16)).1 (dgT (angelT_Dg _ 16)).2 (dgT (dual_Dg (dgT (angelT_Dg _ 16)).2)).1 (dgT (dual_Dg (dgT (angelT_Dg _ 16)).2)).2).mono ?_
    rintro e w' ⟨rfl, rfl⟩
    go_wp2_with fail
    exact bodyPost_ret (results_tmp rfl _ _ _) rfl ⟨_, q3, ⟨_, thenT_Dg (dgT (angelT_Dg _ 16)).2 (dgT (dual_Dg (dgT (angelT_Dg _ 16)).2)).2, rfl⟩, by omega, rfl, HR3.out, HE3.out⟩
  · go_wp2_with fail
    refine (spec_pick b (p + 1) 16 _ HR.out (by omega) (by omega) (by omega)).mono ?_
    rintro e w2 ⟨c, hc0, hc1, rfl, hR2, hE2⟩
    have HR2 := Lib.hid hR2
    have HE2 := Lib.hid (HE.out.trans hE2)
    have hA := assertT_Dg hc0 (show c ≤ 15 by omega)
    have HA := Lib.hid hA
    clear hR2 hE2 hA
    go_wp2_with fail
    refine (spec_l3Assert c _ hc0 (by omega)).mono ?_
    rintro e w' ⟨rfl, rfl⟩
    go_wp2_with fail
    refine (spec_l2Some b (p + 1 + 1) _ HR2.out (by omega)).mono ?_
    rintro e w3 ⟨r3, q3, hs3, hq3, rfl, hR3, hE3⟩
    have HR3 := Lib.hid hR3
    have HE3 := Lib.hid (HE2.out.trans hE3)
    have Hs3 := Lib.hid hs3
    clear hR3 hE3 hs3
    go_wp2_with fail
    refine (spec_l3Angel r3 _ (by have := Hs3.out.size; omega)).mono ?_
    rintro e w' ⟨rfl, rfl⟩
    go_wp2_with fail
    refine (spec_l3Dual _ _ (dgT (angelT_Dg _ 16)).1 (dgT (angelT_Dg _ 16)).2).mono ?_
    rintro e w' ⟨rfl, rfl⟩
    go_wp2_with fail
    refine (spec_l3Then _ _ _ (dgT HA.out).1 (dgT HA.out).2 (dgT (dual_Dg (dgT (angelT_Dg _ 16)).2)).1 (dgT (dual_Dg (dgT (angelT_Dg _ 16)).2)).2).mono ?_
    rintro e w' ⟨rfl, rfl⟩
    go_wp2_with fail
    exact bodyPost_ret (results_tmp rfl _ _ _) rfl ⟨_, q3, ⟨_, thenT_Dg (dgT HA.out).2 (dgT (dual_Dg (dgT (angelT_Dg _ 16)).2)).2, rfl⟩, by omega, rfl, HR3.out, HE3.out⟩
  · have e0 : (kind == 0) = false := beq_eq_false_iff_ne.2 hn0
    have e1 : (kind == 1) = false := beq_eq_false_iff_ne.2 hn1
    have e2 : (kind == 2) = false := beq_eq_false_iff_ne.2 hn2
    have e3 : (kind == 3) = false := beq_eq_false_iff_ne.2 hn3
    clear hn0 hn1 hn2 hn3
    have Hb := Lib.hid HR.out.lt
    have ho := World.ownsRow_made (base := w1.heap.size) (e := 3) (size := 1) w1 #[] 0 (Nat.le_refl _) (by decide) rfl
    have Ho := Lib.hid ho
    have HR3 := Lib.hid (HR.out.below (ba1 w1 (.cells #[] 3)))
    have HE3 := Lib.hid (HE.out.alloc (.cells #[] 3))
    have Hsz := Lib.hid HE.out.size
    clear ho HR HE
    go_wp2_with fail
    go_loopg [3, 4] 4 (fun gk v i wr => ∃ n q g cap : Nat, n ≤ 4 ∧ gk = 4 - n ∧ i = .int .i64 n ∧ v = .slice (some ⟨g, 0, none⟩) n cap ∧ q ≤ p + 1 + 4 * n ∧ OwnF w1.heap.size n wr (.slice (some ⟨g, 0, none⟩) n cap) ∧ Rd wr b q ∧ Els b w wr)
    case atStart => exact ⟨0, p + 1, _, _, by omega, rfl, rfl, rfl, by omega, ⟨[], _, _, rfl, by simp, rfl, Ho.out⟩, HR3.out, HE3.out⟩
    case round =>
      clear HR3 HE3 Ho
      obtain ⟨n, q, g, cap, hn, rfl, rfl, rfl, hq, ho, hr, he⟩ := hrel
      have Ho := Lib.hid ho
      have HR := Lib.hid hr
      have HE := Lib.hid he
      clear ho hr he
      by_cases hlt : n < 4
      case neg =>
        obtain rfl : n = 4 := by omega
        obtain ⟨g', cap', z, hv, hz⟩ := Ho.out.fams
        injection hv with hv1 hv2 hv3
        injection hv1 with hv1
        injection hv1 with hv1
        subst hv1
        have Hz := Lib.hid hz
        clear hz hv2 hv3
        go_wp2_with fail
        refine (spec_TransOf g cap z _ Hz.out).mono ?_
        rintro e w' ⟨s, hs, rfl, rfl⟩
        have Hs := Lib.hid hs
        clear hs
        go_wp2_with fail
        exact bodyPost_ret (results_tmp rfl _ _ _) rfl ⟨_, q, Hs.out, by omega, rfl, HR.out, HE.out⟩
      case pos =>
        have hdn : decide ((n : Int) < 4) = true := decide_eq_true (by omega)
        go_wp2_with fail
        refine (spec_pick b q 4 _ HR.out (by omega) (by omega) (by omega)).mono ?_
        rintro e w2 ⟨k, hk0', hk1', rfl, hR2, hE2⟩
        obtain ⟨k, rfl⟩ := Int.eq_ofNat_of_zero_le hk0'
        have HR2 := Lib.hid hR2
        have Ho2 := Lib.hid (Ho.out.els hE2 Hb.out)
        have HE2 := Lib.hid (HE.out.trans hE2)
        clear hR2 hE2 HR HE Ho
        go_wp2_with fail
        go_loopg [5, 6] k (fun gk fv kv wr => ∃ (j q2 : Nat) (f : Int), j ≤ k ∧ j = gk ∧ kv = .int .i64 j ∧ fv = .int .i64 f ∧ 0 ≤ f ∧ f ≤ 65535 ∧ q2 + j ≤ q + 1 + k ∧ OwnF w1.heap.size n wr (.slice (some ⟨g, 0, none⟩) n cap) ∧ Rd wr b q2 ∧ Els b w wr)
        case atStart => exact ⟨k, q + 1, 0, by omega, rfl, rfl, rfl, by omega, by omega, by omega, Ho2.out, HR2.out, HE2.out⟩
        case round =>
          clear HR2 HE2 Ho2
          obtain ⟨j, q2, f, hj, rfl, rfl, rfl, hf0, hf1, hq2, ho, hr, he⟩ := hrel
          have Ho := Lib.hid ho
          have HR := Lib.hid hr
          have HE := Lib.hid he
          clear ho hr he
          by_cases hj0 : 0 < j
          case pos =>
            have hdj : decide ((0 : Int) < (j : Int)) = true := decide_eq_true (by omega)
            go_wp2_with fail
            refine (spec_pick b q2 16 _ HR.out (by omega) (by omega) (by omega)).mono ?_
            rintro e w3 ⟨u, hu0, hu1, rfl, hR3, hE3⟩
            obtain ⟨u, rfl⟩ := Int.eq_ofNat_of_zero_le hu0
            have HR3 := Lib.hid hR3
            have Ho3 := Lib.hid (Ho.out.els hE3 Hb.out)
            have HE3 := Lib.hid (HE.out.trans hE3)
            obtain ⟨hs0, hs1⟩ := or_16 hf0 hf1 (q := u) (by omega)
            clear hR3 hE3 HR HE Ho
            go_wp2_with fail
            generalize bits BinOp.or IntKind.i64 f (wrap64 (2 ^ u)) = V at *
            go_roundg (j - 1)
            case rel => exact ⟨j - 1, q2 + 1, V, by omega, rfl, by go_num, rfl, hs0, hs1, by omega, Ho3.out, HR3.out, HE3.out⟩
            case measure => omega
          case neg =>
            obtain rfl : j = 0 := by omega
            obtain ⟨xs, g', cap', hx1, hx2, hv, hown⟩ := Ho.out
            have Hx1 := Lib.hid hx1
            have Hx2 := Lib.hid hx2
            have hcx : (wr.alloc (.cells #[.int .i64 f] 3)).cell? ⟨wr.heap.size, 0, none⟩ = some (.int .i64 f) := by rw [World.cell?_alloc_at _ _ _ _ rfl]; rfl
            have Hcx := Lib.hid hcx
            have Hown := Lib.hid (hown.alloc (.cells #[.int .i64 f] 3))
            have Hbs := Lib.hid (show w1.heap.size ≤ (wr.alloc (.cells #[.int .i64 f] 3)).heap.size by have := (hown.lt g rfl).1; have := (hown.lt g rfl).2; simp; omega)
            have HR3 := Lib.hid (HR.out.below (ba1 wr (.cells #[.int .i64 f] 3)))
            have HE3 := Lib.hid (HE.out.alloc (.cells #[.int .i64 f] 3))
            have hfz : (0 : Int) ≤ f ∧ f ≤ 65535 := ⟨hf0, hf1⟩
            have Hfz := Lib.hid hfz
            have Hlt := Lib.hid (fun k hk => (hown.lt k hk).1)
            clear hcx hown hv hx1 hx2 HR HE Ho hfz
            go_wp2_with (at_builtin; refine wpList_push _ rfl (.tmp 59) (.tmp 61) 88 rfl w1.heap.size 3 i0 (.int .i64 0) 8 Try.underlying88 hi hz0 hz1 hz2 rfl _ n _ rfl Hown.out ⟨wr.heap.size, 0, none⟩ 1 (.int .i64 f) rfl Hcx.out rfl (by unfold maxLen; omega) (by omega) Hbs.out ?_)
            intro v' w3 hown' hgrow hnew
            obtain ⟨g2, cap2, rfl⟩ := Joins.ownsRow_form hown' (by omega)
            have hlist : xs.map (Value.int .i64) ++ [Value.int .i64 f] = (xs ++ [f]).map (Value.int .i64) := by simp
            rw [hlist] at hown'
            have Ho4 := Lib.hid (show OwnF w1.heap.size (n + 1) w3 (.slice (some ⟨g2, 0, none⟩) (n + 1) cap2) from ⟨xs ++ [f], g2, cap2, by simp [Hx1.out], fun x hx => by
              rcases List.mem_append.1 hx with h | h
              · exact Hx2.out x h
              · simp at h; subst h; exact Hfz.out, rfl, hown'⟩)
            have HR4 := Lib.hid (HR3.out.grown hgrow Hlt.out Hb.out)
            have HE4 := Lib.hid (HE3.out.grown hgrow Hlt.out Hsz.out)
            clear hown' hgrow hnew hlist HR3 HE3 Hown Hcx
            go_wp2_with fail
            go_roundg (4 - (n + 1))
            case rel => exact ⟨n + 1, q2, g2, cap2, by omega, rfl, by go_num, rfl, by omega, Ho4.out, HR4.out, HE4.out⟩
            case measure => omega
end Go.Proofs.Ytmecagiadlimgaa
