/-
  Plain definitions and laws: what a contract tells. No program in sight.
-/
import Derived.Test.YtmajmkggbgilbaaCt
import Derived.Test.YtmajmkggbgilbaaLp
namespace Go.DC
open Go.RowKit
set_option linter.unusedVariables false
set_option linter.unusedSimpArgs false
/-- The condition of a head: its last digit. -/
def pv (ds : List UInt8) : Int := match ds.getLast? with
  | none => 0
  | some b => hx b
/-- The relation of a head with four digits. -/
def rv (ds : List UInt8) : Nat → Int := fun i => hx (ds.getD i 0)
def assumeT (p : Int) : Nat → Int := fun q => bor (q : Int) (bandn 15 p)
/-- p and a, or b and not p. -/
def ifv (p a b : Int) : Int := bor (band p a) (bandn b p)
/-- What a contract tells. -/
def tr : Ct → Nat → Int
  | .z o d => if o = 115 then assertT 15 else if o = 97 then assertT 0 else if o = 109 then assumeT 0 else if o = 33 then assertT (pv d)
      else if o = 63 then assumeT (pv d) else if o = 65 then angelT (rv d) else demonT (rv d)
  | .u o d x => if o = 119 then fun q => lp fun y => ifv (pv d) (ap (tr x) y) q else if o = 42 then fun q => lp fun y => band (ap (tr x) y) q
      else fun q => lp fun y => bor (ap (tr x) y) q
  | .b o d x y => if o = 59 then thenT (tr x) (tr y) else if o = 38 then meetT (tr x) (tr y) else if o = 124 then joinT (tr x) (tr y)
      else fun q => ifv (pv d) (tr x q) (tr y q)
theorem hxs_mem {l : List UInt8} (h : hxs l = true) {b : UInt8} (hb : b ∈ l) : Cv (hx b) := by
  unfold hxs at h
  rw [List.all_eq_true] at h
  have := h b hb
  exact ⟨by simpa using this, (hx_rng b).2⟩
theorem pv_cv {l : List UInt8} (h : hxs l = true) : Cv (pv l) := by
  unfold pv
  cases hl : l.getLast? with
  | none => exact Cv.c0
  | some b => exact hxs_mem h (List.mem_of_getLast? hl)
theorem rv_Dg {l : List UInt8} (h : hxs l = true) (hl : l.length = 4) : Dg 4 (rv l) := fun i hi => by
  unfold rv
  have : l.getD i 0 = l[i]'(by omega) := by simp [List.getD, hl, hi]
  rw [this]
  exact hxs_mem h (List.getElem_mem _)
/-- A transformer. -/
def Tr (x : Nat → Int) : Prop := Mono (ap x)
theorem Tr.cv {x : Nat → Int} (h : Tr x) {a : Int} (ha : Cv a) : Cv (ap x a) := Mono.cv h ha
theorem Tr.sub {x : Nat → Int} (h : Tr x) {a b : Int} (ha : Cv a) (hb : Cv b) (hs : Sub a b) : Sub (ap x a) (ap x b) := Mono.sub h ha hb hs
theorem Tr.dg {x : Nat → Int} (h : Tr x) : Dg 16 x := fun i hi => by
  have := h.cv (Cv.nat hi)
  have e : ap x (i : Int) = x i := by unfold ap; simp
  rw [e] at this
  exact this
theorem Tr.mk' {x : Nat → Int} (h1 : ∀ a, Cv a → Cv (ap x a)) (h2 : ∀ a b, Cv a → Cv b → Sub a b → Sub (ap x a) (ap x b)) : Tr x := Mono.mk' h1 h2
theorem ap_nat (x : Nat → Int) (q : Nat) : ap x (q : Int) = x q := by unfold ap; simp
theorem cv_nat {a : Int} (ha : Cv a) : ((a.toNat : Nat) : Int) = a := Int.toNat_of_nonneg ha.1
theorem ap_assert {p a : Int} (ha : Cv a) : ap (assertT p) a = band p a := by unfold ap assertT; rw [cv_nat ha]
theorem ap_assume {p a : Int} (ha : Cv a) : ap (assumeT p) a = bor a (bandn 15 p) := by unfold ap assumeT; rw [cv_nat ha]
theorem ap_angel {x : Nat → Int} {a : Int} (ha : Cv a) : ap (angelT x) a = dia x a := by unfold ap angelT; rw [cv_nat ha]
theorem ap_demon {x : Nat → Int} {a : Int} (ha : Cv a) : ap (demonT x) a = boxR x a := by unfold ap demonT; rw [cv_nat ha]
theorem ap_then {x y : Nat → Int} {a : Int} : ap (thenT x y) a = ap x (ap y a) := rfl
theorem ap_meet {x y : Nat → Int} {a : Int} : ap (meetT x y) a = band (ap x a) (ap y a) := rfl
theorem ap_join {x y : Nat → Int} {a : Int} : ap (joinT x y) a = bor (ap x a) (ap y a) := rfl
theorem hasb_box {x : Nat → Int} (p : Int) {i : Nat} (hi : i < 4) : hasb (boxR x p) i = (bandn (x i) p == 0) := by
  unfold boxR; rw [hasb_mk _ _ _ (by decide)]; simp [hi]
theorem meet_iff {a b : Int} (ha : Cv a) (hb : Cv b) : (band a b != 0) = true ↔ ∃ k, k < 4 ∧ hasb a k = true ∧ hasb b k = true := by
  rw [meet_any ha.1 ha.2 hb.1 hb.2, List.any_eq_true]
  constructor
  · rintro ⟨k, hk, h⟩; rw [Bool.and_eq_true] at h; exact ⟨k, List.mem_range.1 hk, h.1, h.2⟩
  · rintro ⟨k, hk, h1, h2⟩; exact ⟨k, List.mem_range.2 hk, by rw [h1, h2]; rfl⟩
theorem Dg.cv {n : Nat} {x : Nat → Int} (h : Dg n x) {i : Nat} (hi : i < n) : Cv (x i) := h i hi
theorem dia_cv (x : Nat → Int) (p : Int) : Cv (dia x p) := dia_rng x p
theorem box_cv (x : Nat → Int) (p : Int) : Cv (boxR x p) := boxR_rng x p
theorem dia_sub {x : Nat → Int} (hx : Dg 4 x) {a b : Int} (ha : Cv a) (hb : Cv b) (h : Sub a b) : Sub (dia x a) (dia x b) :=
  (sub_bits (dia_cv _ _) (dia_cv _ _)).2 fun i hi hs => by
    rw [hasb_dia _ _ hi] at hs ⊢
    obtain ⟨k, hk, h1, h2⟩ := (meet_iff (hx.cv hi) ha).1 hs
    exact (meet_iff (hx.cv hi) hb).2 ⟨k, hk, h1, (sub_bits ha hb).1 h k hk h2⟩
theorem box_sub {x : Nat → Int} (hx : Dg 4 x) {a b : Int} (ha : Cv a) (hb : Cv b) (h : Sub a b) : Sub (boxR x a) (boxR x b) :=
  (sub_bits (box_cv _ _) (box_cv _ _)).2 fun i hi hs => by
    rw [hasb_box _ hi] at hs ⊢
    have e : Sub (x i) a := by simpa [Sub] using hs
    have : Sub (x i) b := Sub.trans (hx.cv hi) ha hb e h
    simpa [Sub] using this
theorem and_sub {a b c d : Int} (ha : Cv a) (hb : Cv b) (hc : Cv c) (hd : Cv d) (h1 : Sub a b) (h2 : Sub c d) : Sub (band a c) (band b d) :=
  (sub_bits (ha.and hc) (hb.and hd)).2 fun i hi hs => by
    rw [ha.has_and hc hi, Bool.and_eq_true] at hs
    rw [hb.has_and hd hi, (sub_bits ha hb).1 h1 i hi hs.1, (sub_bits hc hd).1 h2 i hi hs.2]; rfl
theorem or_sub {a b c d : Int} (ha : Cv a) (hb : Cv b) (hc : Cv c) (hd : Cv d) (h1 : Sub a b) (h2 : Sub c d) : Sub (bor a c) (bor b d) :=
  (sub_bits (ha.or hc) (hb.or hd)).2 fun i hi hs => by
    rw [ha.has_or hc hi, Bool.or_eq_true] at hs
    rw [hb.has_or hd hi, Bool.or_eq_true]
    exact hs.elim (fun h => .inl ((sub_bits ha hb).1 h1 i hi h)) (fun h => .inr ((sub_bits hc hd).1 h2 i hi h))
theorem andn_sub {a b p : Int} (ha : Cv a) (hb : Cv b) (hp : Cv p) (h1 : Sub a b) : Sub (bandn a p) (bandn b p) :=
  (sub_bits (ha.andn hp) (hb.andn hp)).2 fun i hi hs => by
    rw [ha.has_andn hp hi, Bool.and_eq_true] at hs
    rw [hb.has_andn hp hi, (sub_bits ha hb).1 h1 i hi hs.1, hs.2]; rfl
theorem if_cv {p a b : Int} (hp : Cv p) (ha : Cv a) (hb : Cv b) : Cv (ifv p a b) := (hp.and ha).or (hb.andn hp)
theorem if_sub {p a b c d : Int} (hp : Cv p) (ha : Cv a) (hb : Cv b) (hc : Cv c) (hd : Cv d) (h1 : Sub a b) (h2 : Sub c d) : Sub (ifv p a c) (ifv p b d) :=
  or_sub (hp.and ha) (hp.and hb) (hc.andn hp) (hd.andn hp) (and_sub hp hp ha hb (Sub.refl hp) h1) (andn_sub hc hd hp h2)
theorem Tr.assert {p : Int} (hp : Cv p) : Tr (assertT p) := Tr.mk' (fun a ha => by rw [ap_assert ha]; exact hp.and ha) fun a b ha hb h => by
  rw [ap_assert ha, ap_assert hb]; exact and_sub hp hp ha hb (Sub.refl hp) h
theorem Tr.assume {p : Int} (hp : Cv p) : Tr (assumeT p) := Tr.mk' (fun a ha => by rw [ap_assume ha]; exact ha.or (Cv.c15.andn hp)) fun a b ha hb h => by
  rw [ap_assume ha, ap_assume hb]; exact or_sub ha hb (Cv.c15.andn hp) (Cv.c15.andn hp) h (Sub.refl (Cv.c15.andn hp))
theorem Tr.angel {x : Nat → Int} (hx : Dg 4 x) : Tr (angelT x) := Tr.mk' (fun a ha => by rw [ap_angel ha]; exact dia_cv _ _) fun a b ha hb h => by
  rw [ap_angel ha, ap_angel hb]; exact dia_sub hx ha hb h
theorem Tr.demon {x : Nat → Int} (hx : Dg 4 x) : Tr (demonT x) := Tr.mk' (fun a ha => by rw [ap_demon ha]; exact box_cv _ _) fun a b ha hb h => by
  rw [ap_demon ha, ap_demon hb]; exact box_sub hx ha hb h
theorem Tr.then {x y : Nat → Int} (hx : Tr x) (hy : Tr y) : Tr (thenT x y) := Tr.mk' (fun a ha => by rw [ap_then]; exact hx.cv (hy.cv ha)) fun a b ha hb h => by
  rw [ap_then, ap_then]; exact hx.sub (hy.cv ha) (hy.cv hb) (hy.sub ha hb h)
theorem Tr.meet {x y : Nat → Int} (hx : Tr x) (hy : Tr y) : Tr (meetT x y) := Tr.mk' (fun a ha => by rw [ap_meet]; exact (hx.cv ha).and (hy.cv ha)) fun a b ha hb h => by
  rw [ap_meet, ap_meet]; exact and_sub (hx.cv ha) (hx.cv hb) (hy.cv ha) (hy.cv hb) (hx.sub ha hb h) (hy.sub ha hb h)
theorem Tr.join {x y : Nat → Int} (hx : Tr x) (hy : Tr y) : Tr (joinT x y) := Tr.mk' (fun a ha => by rw [ap_join]; exact (hx.cv ha).or (hy.cv ha)) fun a b ha hb h => by
  rw [ap_join, ap_join]; exact or_sub (hx.cv ha) (hx.cv hb) (hy.cv ha) (hy.cv hb) (hx.sub ha hb h) (hy.sub ha hb h)
theorem Tr.if_ {p : Int} {x y : Nat → Int} (hp : Cv p) (hx : Tr x) (hy : Tr y) : Tr (fun q => ifv p (x q) (y q)) := Tr.mk' (fun a ha => if_cv hp (hx.cv ha) (hy.cv ha)) fun a b ha hb h =>
  if_sub hp (hx.cv ha) (hx.cv hb) (hy.cv ha) (hy.cv hb) (hx.sub ha hb h) (hy.sub ha hb h)
/-- The turn of a while, of a demon's and of an angel's iteration. -/
theorem mono_w {p q : Int} {x : Nat → Int} (hp : Cv p) (hx : Tr x) (hq : Cv q) : Mono fun y => ifv p (ap x y) q := Mono.mk' (fun a ha => if_cv hp (hx.cv ha) hq) fun a b ha hb h =>
  if_sub hp (hx.cv ha) (hx.cv hb) hq hq (hx.sub ha hb h) (Sub.refl hq)
theorem mono_d {q : Int} {x : Nat → Int} (hx : Tr x) (hq : Cv q) : Mono fun y => band (ap x y) q := Mono.mk' (fun a ha => (hx.cv ha).and hq) fun a b ha hb h =>
  and_sub (hx.cv ha) (hx.cv hb) hq hq (hx.sub ha hb h) (Sub.refl hq)
theorem mono_a {q : Int} {x : Nat → Int} (hx : Tr x) (hq : Cv q) : Mono fun y => bor (ap x y) q := Mono.mk' (fun a ha => (hx.cv ha).or hq) fun a b ha hb h =>
  or_sub (hx.cv ha) (hx.cv hb) hq hq (hx.sub ha hb h) (Sub.refl hq)
def whileT (p : Int) (x : Nat → Int) : Nat → Int := fun q => lp fun y => ifv p (ap x y) q
def starD (x : Nat → Int) : Nat → Int := fun q => lp fun y => band (ap x y) q
def starA (x : Nat → Int) : Nat → Int := fun q => lp fun y => bor (ap x y) q
theorem ap_while {p a : Int} {x : Nat → Int} (ha : Cv a) : ap (whileT p x) a = lp fun y => ifv p (ap x y) a := by unfold ap whileT; rw [cv_nat ha]; rfl
theorem ap_starD {a : Int} {x : Nat → Int} (ha : Cv a) : ap (starD x) a = lp fun y => band (ap x y) a := by unfold ap starD; rw [cv_nat ha]; rfl
theorem ap_starA {a : Int} {x : Nat → Int} (ha : Cv a) : ap (starA x) a = lp fun y => bor (ap x y) a := by unfold ap starA; rw [cv_nat ha]; rfl
theorem Tr.while {p : Int} {x : Nat → Int} (hp : Cv p) (hx : Tr x) : Tr (whileT p x) := Tr.mk' (fun a ha => by rw [ap_while ha]; exact lp_cv (mono_w hp hx ha)) fun a b ha hb h => by
  rw [ap_while ha, ap_while hb]
  exact lp_sub (mono_w hp hx ha) (mono_w hp hx hb) fun y hy => if_sub hp (hx.cv hy) (hx.cv hy) ha hb (Sub.refl (hx.cv hy)) h
theorem Tr.starD {x : Nat → Int} (hx : Tr x) : Tr (starD x) := Tr.mk' (fun a ha => by rw [ap_starD ha]; exact lp_cv (mono_d hx ha)) fun a b ha hb h => by
  rw [ap_starD ha, ap_starD hb]
  exact lp_sub (mono_d hx ha) (mono_d hx hb) fun y hy => and_sub (hx.cv hy) (hx.cv hy) ha hb (Sub.refl (hx.cv hy)) h
theorem Tr.starA {x : Nat → Int} (hx : Tr x) : Tr (starA x) := Tr.mk' (fun a ha => by rw [ap_starA ha]; exact lp_cv (mono_a hx ha)) fun a b ha hb h => by
  rw [ap_starA ha, ap_starA hb]
  exact lp_sub (mono_a hx ha) (mono_a hx hb) fun y hy => or_sub (hx.cv hy) (hx.cv hy) ha hb (Sub.refl (hx.cv hy)) h
/-- Which letters have no part, one, and two. -/
theorem shp0 {o : UInt8} {d : Nat} (h : shp o = some (0, d)) : (o = 115 ∧ d = 0) ∨ (o = 97 ∧ d = 0) ∨ (o = 109 ∧ d = 0) ∨ (o = 33 ∧ d = 1) ∨ (o = 63 ∧ d = 1) ∨ (o = 65 ∧ d = 4) ∨ (o = 68 ∧ d = 4) := by
  have h8 : ∀ n : Fin 256, ∀ q : Fin 5, shp (UInt8.ofNat n.val) = some (0, q.val) → (UInt8.ofNat n.val = 115 ∧ q.val = 0) ∨ (UInt8.ofNat n.val = 97 ∧ q.val = 0) ∨ (UInt8.ofNat n.val = 109 ∧ q.val = 0) ∨ (UInt8.ofNat n.val = 33 ∧ q.val = 1) ∨ (UInt8.ofNat n.val = 63 ∧ q.val = 1) ∨ (UInt8.ofNat n.val = 65 ∧ q.val = 4) ∨ (UInt8.ofNat n.val = 68 ∧ q.val = 4) := by decide +kernel
  have hd := (shp_k h).2
  have := h8 ⟨o.toNat, o.toNat_lt⟩ ⟨d, by omega⟩
  simp at this
  exact this h
theorem shp1 {o : UInt8} {d : Nat} (h : shp o = some (1, d)) : (o = 119 ∧ d = 1) ∨ (o = 42 ∧ d = 0) ∨ (o = 43 ∧ d = 0) := by
  have h8 : ∀ n : Fin 256, ∀ q : Fin 5, shp (UInt8.ofNat n.val) = some (1, q.val) → (UInt8.ofNat n.val = 119 ∧ q.val = 1) ∨ (UInt8.ofNat n.val = 42 ∧ q.val = 0) ∨ (UInt8.ofNat n.val = 43 ∧ q.val = 0) := by decide +kernel
  have hd := (shp_k h).2
  have := h8 ⟨o.toNat, o.toNat_lt⟩ ⟨d, by omega⟩
  simp at this
  exact this h
theorem shp2 {o : UInt8} {d : Nat} (h : shp o = some (2, d)) : (o = 59 ∧ d = 0) ∨ (o = 38 ∧ d = 0) ∨ (o = 124 ∧ d = 0) ∨ (o = 105 ∧ d = 1) := by
  have h8 : ∀ n : Fin 256, ∀ q : Fin 5, shp (UInt8.ofNat n.val) = some (2, q.val) → (UInt8.ofNat n.val = 59 ∧ q.val = 0) ∨ (UInt8.ofNat n.val = 38 ∧ q.val = 0) ∨ (UInt8.ofNat n.val = 124 ∧ q.val = 0) ∨ (UInt8.ofNat n.val = 105 ∧ q.val = 1) := by decide +kernel
  have hd := (shp_k h).2
  have := h8 ⟨o.toNat, o.toNat_lt⟩ ⟨d, by omega⟩
  simp at this
  exact this h
theorem tr_s (d) : tr (.z 115 d) = assertT 15 := rfl
theorem tr_a (d) : tr (.z 97 d) = assertT 0 := rfl
theorem tr_m (d) : tr (.z 109 d) = assumeT 0 := rfl
theorem tr_assert (d) : tr (.z 33 d) = assertT (pv d) := rfl
theorem tr_assume (d) : tr (.z 63 d) = assumeT (pv d) := rfl
theorem tr_angel (d) : tr (.z 65 d) = angelT (rv d) := rfl
theorem tr_demon (d) : tr (.z 68 d) = demonT (rv d) := rfl
theorem tr_while (d) (x : Ct) : tr (.u 119 d x) = whileT (pv d) (tr x) := rfl
theorem tr_starD (d) (x : Ct) : tr (.u 42 d x) = starD (tr x) := rfl
theorem tr_starA (d) (x : Ct) : tr (.u 43 d x) = starA (tr x) := rfl
theorem tr_then (d) (x y : Ct) : tr (.b 59 d x y) = thenT (tr x) (tr y) := rfl
theorem tr_meet (d) (x y : Ct) : tr (.b 38 d x y) = meetT (tr x) (tr y) := rfl
theorem tr_join (d) (x y : Ct) : tr (.b 124 d x y) = joinT (tr x) (tr y) := rfl
theorem tr_if (d) (x y : Ct) : tr (.b 105 d x y) = fun q => ifv (pv d) (tr x q) (tr y q) := rfl
theorem tr_Tr : ∀ {t : Ct}, t.wf = true → Tr (tr t)
  | .z o d, h => by
    obtain ⟨hs, hd⟩ := Ct.wf_z h
    rcases shp0 hs with ⟨rfl, hl⟩ | ⟨rfl, hl⟩ | ⟨rfl, hl⟩ | ⟨rfl, hl⟩ | ⟨rfl, hl⟩ | ⟨rfl, hl⟩ | ⟨rfl, hl⟩
    · exact Tr.assert Cv.c15
    · exact Tr.assert Cv.c0
    · exact Tr.assume Cv.c0
    · exact Tr.assert (pv_cv hd)
    · exact Tr.assume (pv_cv hd)
    · exact Tr.angel (rv_Dg hd hl)
    · exact Tr.demon (rv_Dg hd hl)
  | .u o d x, h => by
    obtain ⟨hs, hd, hx⟩ := Ct.wf_u h
    rcases shp1 hs with ⟨rfl, hl⟩ | ⟨rfl, hl⟩ | ⟨rfl, hl⟩
    · exact Tr.while (pv_cv hd) (tr_Tr hx)
    · exact Tr.starD (tr_Tr hx)
    · exact Tr.starA (tr_Tr hx)
  | .b o d x y, h => by
    obtain ⟨hs, hd, hx, hy⟩ := Ct.wf_b h
    rcases shp2 hs with ⟨rfl, hl⟩ | ⟨rfl, hl⟩ | ⟨rfl, hl⟩ | ⟨rfl, hl⟩
    · exact Tr.then (tr_Tr hx) (tr_Tr hy)
    · exact Tr.meet (tr_Tr hx) (tr_Tr hy)
    · exact Tr.join (tr_Tr hx) (tr_Tr hy)
    · exact Tr.if_ (pv_cv hd) (tr_Tr hx) (tr_Tr hy)
end Go.DC
