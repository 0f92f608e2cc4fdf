/-
  Plain laws: the reference's way to what a contract tells. No program in sight.
-/
import Derived.Test.YtmajmkggbgilbaaPs
import Derived.Laws.StructEq
namespace Go.DC
open Go.RowKit
set_option linter.unusedVariables false
set_option linter.unusedSimpArgs false
theorem meet_txt {x y : Nat → Int} (hx : Dg 16 x) (hy : Dg 16 y) : txt 16 (meetT (dg (txt 16 x)) (dg (txt 16 y))) = txt 16 (meetT x y) := txt_congr fun p hp => by
  unfold meetT; rw [dg_txt hx hp, dg_txt hy hp]
theorem join_txt {x y : Nat → Int} (hx : Dg 16 x) (hy : Dg 16 y) : txt 16 (joinT (dg (txt 16 x)) (dg (txt 16 y))) = txt 16 (joinT x y) := txt_congr fun p hp => by
  unfold joinT; rw [dg_txt hx hp, dg_txt hy hp]
theorem dual_assert {p : Int} (hp : Cv p) : txt 16 (dual (assertT p)) = txt 16 (assumeT p) := txt_congr fun q hq => by
  have hf : ∀ m n : Fin 16, bandn 15 (band (m.val : Int) (bandn 15 (n.val : Int))) = bor (n.val : Int) (bandn 15 (m.val : Int)) := by decide +kernel
  have h := cond_all2 (P := fun a b => bandn 15 (band a (bandn 15 b)) = bor b (bandn 15 a)) hf hp.1 hp.2 (Cv.nat hq).1 (Cv.nat hq).2
  have hr := bandn_rng (a := 15) (b := (q : Int)) (by decide) (by decide) (by omega) (by omega)
  unfold dual assertT assumeT
  rw [Int.toNat_of_nonneg hr.1]
  exact h
theorem dual_angel {x : Nat → Int} (hx : Dg 4 x) : txt 16 (dual (angelT x)) = txt 16 (demonT x) := txt_congr fun q hq => (demon_eq hx hq).symm
theorem if_join {p : Int} (hp : Cv p) {x y : Nat → Int} (hx : Dg 16 x) (hy : Dg 16 y) : txt 16 (joinT (thenT (assertT p) x) (thenT (assertT (bandn 15 p)) y)) = txt 16 (fun q => ifv p (x q) (y q)) := txt_congr fun q hq => by
  have h1 := hx q hq
  have h2 := hy q hq
  unfold joinT thenT assertT ifv
  rw [Int.toNat_of_nonneg h1.1, Int.toNat_of_nonneg h2.1]
  have hf : ∀ m n : Fin 16, band (bandn 15 (m.val : Int)) (n.val : Int) = bandn (n.val : Int) (m.val : Int) := by decide +kernel
  rw [cond_all2 (P := fun a b => band (bandn 15 a) b = bandn b a) hf hp.1 hp.2 h2.1 h2.2]
/-- The turn of a loop. -/
def turnV (o : UInt8) (p a q : Int) : Int := if o = 42 then band a q else if o = 43 then bor a q else ifv p a q
theorem tr_loop {o : UInt8} {d : List UInt8} {x : Ct} (h : (Ct.u o d x).wf = true) (q : Nat) : tr (.u o d x) q = lp fun y => turnV o (pv d) (ap (tr x) y) q := by
  rcases shp1 (Ct.wf_u h).1 with ⟨rfl, _⟩ | ⟨rfl, _⟩ | ⟨rfl, _⟩ <;> rfl
theorem mono_loop {o : UInt8} {d : List UInt8} {x : Ct} (h : (Ct.u o d x).wf = true) {q : Int} (hq : Cv q) : Mono fun y => turnV o (pv d) (ap (tr x) y) q := by
  obtain ⟨hs, hd, hx⟩ := Ct.wf_u h
  rcases shp1 hs with ⟨rfl, _⟩ | ⟨rfl, _⟩ | ⟨rfl, _⟩
  · exact mono_w (pv_cv hd) (tr_Tr hx) hq
  · exact mono_d (tr_Tr hx) hq
  · exact mono_a (tr_Tr hx) hq
theorem bytes_one {t : Ct} {d0 : UInt8} (h : t.ds = [d0]) : ∃ h1 : 1 < t.bytes.size, t.bytes[1]'h1 = d0 := by
  have hl : t.tx = t.o :: d0 :: txs t.kids := by rw [tx_kids, h]; rfl
  have h1 : 1 < t.bytes.size := by rw [Ct.bytes_size, hl]; simp
  refine ⟨h1, ?_⟩
  have h1' : 1 < t.bytes.data.toList.length := h1
  show t.bytes.data.toList[1] = d0
  have : t.bytes.data.toList = t.o :: d0 :: txs t.kids := by rw [Ct.bytes_list, hl]
  simp [this]
theorem bytes_four {t : Ct} (h : t.ds.length = 4) : 5 ≤ t.bytes.size ∧ t.bytes.extract 1 5 = bts t.ds := by
  constructor
  · rw [Ct.bytes_size, tx_kids]; simp; omega
  · refine bts_of ?_
    rw [extract_list, Ct.bytes_list, tx_kids, List.drop_succ_cons, List.drop_zero]
    have : 5 - 1 = t.ds.length := by rw [h]
    rw [this, List.take_left]
theorem one_digit {l : List UInt8} (h : l.length = 1) : ∃ b, l = [b] ∧ pv l = hx b := by
  match l, h with
  | [b], _ => exact ⟨b, rfl, rfl⟩
theorem dg_bts (l : List UInt8) (i : Nat) : dg (bts l) i = rv l i := by unfold dg rv; rw [bts_list]
theorem angel_bts (l : List UInt8) : angelT (dg (bts l)) = angelT (rv l) := by
  have : dg (bts l) = rv l := funext fun i => dg_bts l i
  rw [this]
theorem eq_bytes (a b : ByteArray) : (a.toList == b.toList) = decide (a = b) := by
  rw [ByteArray.toList_eq, ByteArray.toList_eq, Bool.eq_iff_iff, beq_iff_eq, decide_eq_true_iff]
  constructor
  · intro h
    have h1 := bts_of (c := a) rfl
    have h2 := bts_of (c := b) rfl
    rw [h1, h2, h]
  · rintro rfl; rfl
/-- A transformer refines another one exactly if it is what both have at least. -/
theorem ref_join {r q : ByteArray} (hr : Dg 16 (dg r)) (hq : dvB 16 q = true) : decide (txt 16 (joinT (dg r) (dg q)) = q) = refB (dg r) (dg q) := by
  rw [Bool.eq_iff_iff, decide_eq_true_iff, refB_iff]
  have hd := dvB_Dg hq
  have hf : ∀ m n : Fin 16, (bor (m.val : Int) (n.val : Int) = (n.val : Int) ↔ bandn (m.val : Int) (n.val : Int) = 0) := by decide +kernel
  have key : ∀ k, k < 16 → (joinT (dg r) (dg q) k = dg q k ↔ bandn (dg r k) (dg q k) = 0) := fun k hk =>
    cond_all2 (P := fun a b => (bor a b = b ↔ bandn a b = 0)) hf (hr k hk).1 (hr k hk).2 (hd k hk).1 (hd k hk).2
  constructor
  · intro h k hk
    rw [← key k hk]
    have := congrArg (fun t => dg t k) h
    have e : dg (txt 16 (joinT (dg r) (dg q))) k = dg q k := this
    rw [dg_txt (joinT_Dg hr hd) hk] at e
    exact e
  · intro h
    rw [← txt_dg hq]
    refine txt_congr fun k hk => ?_
    rw [txt_dg hq]
    exact (key k hk).2 (h k hk)
theorem refB_txt {x y : Nat → Int} (hx : Dg 16 x) (hy : Dg 16 y) : refB (dg (txt 16 x)) (dg (txt 16 y)) = refB x y := by
  rw [Bool.eq_iff_iff, refB_iff, refB_iff]
  constructor
  · intro h k hk; have := h k hk; rwa [dg_txt hx hk, dg_txt hy hk] at this
  · intro h k hk; rw [dg_txt hx hk, dg_txt hy hk]; exact h k hk
/-- The text of a transformer is one. -/
theorem tvB_txt {x : Nat → Int} (h : Tr x) : tvB (txt 16 x) = true := by
  unfold tvB
  rw [dvB_txt h.dg, Bool.true_and, all2_iff]
  intro p q hp hq
  unfold badM
  rw [dg_txt h.dg hp, dg_txt h.dg hq]
  cases hb : (bits .andNot .i64 (p : Int) (q : Int) == 0)
  · rfl
  · have hs : Sub (p : Int) (q : Int) := by simpa [Sub, bandn] using hb
    have := h.sub (Cv.nat hp) (Cv.nat hq) hs
    rw [ap_nat, ap_nat] at this
    unfold Sub bandn at this
    rw [this]; rfl
/-- What is needed before a contract. -/
def need (c : ByteArray) (p : Int) : Int := ctv c (-1) fun t => askV (cv p) (ap (tr t) p)
/-- Two tables of 16 numbers are one. -/
def eqT (x y : Nat → Int) : Bool := (List.range 16).all fun k => x k == y k
theorem eqT_iff {x y : Nat → Int} : eqT x y = true ↔ ∀ k, k < 16 → x k = y k := by unfold eqT; simp
theorem eqT_txt {x y : Nat → Int} (hx : Dg 16 x) (hy : Dg 16 y) : decide (txt 16 x = txt 16 y) = eqT x y := by
  rw [Bool.eq_iff_iff, decide_eq_true_iff, eqT_iff]
  exact ⟨fun h => txt_inj hx hy h, fun h => txt_congr h⟩
end Go.DC
