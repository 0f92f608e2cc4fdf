/-
  The contract of the reader's draw of a number.
-/
import Derived.Test.YtfajaikkagmkeaaA1
import Derived.Test.YtfajaikkagmkeaaT
import Derived.Test.YtfajaikkagmkeaaG2
import Derived.Deep.QuietTactic
import Derived.BigQuiet
namespace Go.Proofs.Ytfajaikkagmkeaa
open Go.RowKit Go.DC
set_option maxHeartbeats 1000000
set_option linter.unusedVariables false
set_option linter.unusedSimpArgs false

theorem spec_pick (b p : Nat) (n : Int) (w : World) (hr : Rd w b p) (hp : p ≤ 1000000) (hn : 1 ≤ n) (hn2 : n ≤ 1000000) :
    Calls Try.prog 92 #[.pointer (some ⟨b, 0, none⟩), .int .i64 n] w (Pick b p n w) := by
  obtain ⟨t, a, len, cap, hb, hlen, hbytes⟩ := hr
  have hc0 : w.cell? ⟨b, 0, none⟩ = some (.slice a len cap) := by rw [cell_of_row w b 0 _ t _ hb]; rfl
  have hc1 : w.cell? ⟨b, 1, none⟩ = some (.int .i64 p) := by rw [cell_of_row w b 1 _ t _ hb]; rfl
  have hf1 : w.frozen? ⟨b, 1, none⟩ = false := frozen_of_row w b 1 _ t hb
  have hlt : decide (n < 1) = false := by simp; omega
  go_enter Try.func92, Try.ntmps92
  rcases hbytes with rfl | ⟨c, off, z, rfl, hcb, hcs, hz⟩
  · go_wp2_with fail
    refine bodyPost_ret (results_tmp rfl _ _ _) rfl ⟨0, by omega, by omega, rfl, ?_, ?_⟩
    · exact ⟨t, a, 0, cap, by rw [heap_setCell_same w b 1 _ t _ hb]; rfl, by omega, .inl rfl⟩
    · exact (Els.refl _ _).setCell _ _
  · have hR : Rd (w.setCell ⟨b, 1, none⟩ (.int .i64 (p + 1))) b (p + 1) := ⟨t, _, len, cap, by rw [heap_setCell_same w b 1 _ t _ hb]; rfl, hlen, .inr ⟨c, off, z, rfl, hcb, by simpa using hcs, fun k hk => ⟨by rw [World.cell?_of_block (w := w) (Below.heap_setCell _ _ _ _ (Nat.ne_of_lt hcb))]; exact (hz k hk).1, (hz k hk).2⟩⟩⟩
    have hE : Els b w (w.setCell ⟨b, 1, none⟩ (.int .i64 (p + 1))) := (Els.refl _ _).setCell _ _
    by_cases hl0 : len = 0
    · subst hl0
      go_wp2_with fail
      exact bodyPost_ret (results_tmp rfl _ _ _) rfl ⟨0, by omega, by omega, rfl, hR, hE⟩
    · have hl1 : ((len : Int) == 0) = false := by simp; omega
      by_cases hlt2 : p < len
      · obtain ⟨z1, z2, z3⟩ := hz p hlt2
        go_wp2_with fail
        exact bodyPost_ret (results_tmp rfl _ _ _) rfl ⟨z p % n, Int.emod_nonneg _ (by omega), Int.emod_lt_of_pos _ (by omega), rfl, hR, hE⟩
      · have hpl : decide (p < len) = false := by simp; omega
        have hm1 : p % len < len := Nat.mod_lt _ (by omega)
        have hm2 : (p * 7 + 3) % len < len := Nat.mod_lt _ (by omega)
        obtain ⟨z1, z2, z3⟩ := hz _ hm1
        obtain ⟨y1, y2, y3⟩ := hz _ hm2
        have HR := Lib.hid hR
        have HE := Lib.hid hE
        clear hz hR hE
        have hm3 : p % len ≤ p := Nat.mod_le _ _
        have e1 : (p : Int).tmod (len : Int) = ((p % len : Nat) : Int) := rfl
        have e4 : ((p : Int) * 7 + 3).tmod (len : Int) = (((p * 7 + 3) % len : Nat) : Int) := by
          have : ((p : Int) * 7 + 3) = ((p * 7 + 3 : Nat) : Int) := by omega
          rw [this]; rfl
        have e5 : (p : Int).tdiv (len : Int) = ((p / len : Nat) : Int) := rfl
        have hq : p / len ≤ p := Nat.div_le_self _ _
        generalize p / len = d at *
        generalize hi1 : p % len = i1 at *
        generalize hi2 : (p * 7 + 3) % len = i2 at *
        generalize hu : z i1 = u at *
        generalize hv : z i2 = v at *
        have w1 : IntKind.i64.wrap (i1 : Int) = (i1 : Int) := IntWalk.i64_in _ (by omega)
        have w2 : IntKind.i64.wrap ((p : Int) * 7) = (p : Int) * 7 := IntWalk.i64_in _ (by omega)
        have w3 : IntKind.i64.wrap ((p : Int) * 7 + 3) = (p : Int) * 7 + 3 := IntWalk.i64_in _ (by omega)
        have w4 : IntKind.i64.wrap (i2 : Int) = (i2 : Int) := IntWalk.i64_in _ (by omega)
        have w5 : IntKind.i64.wrap u = u := IntWalk.i64_in _ (by omega)
        have w6 : IntKind.i64.wrap (u * 131) = u * 131 := IntWalk.i64_in _ (by omega)
        have w7 : IntKind.i64.wrap v = v := IntWalk.i64_in _ (by omega)
        have w8 : IntKind.i64.wrap (v * 1117) = v * 1117 := IntWalk.i64_in _ (by omega)
        have w9 : IntKind.i64.wrap (u * 131 + v * 1117) = u * 131 + v * 1117 := IntWalk.i64_in _ (by omega)
        have w10 : IntKind.i64.wrap ((p : Int) * 29) = (p : Int) * 29 := IntWalk.i64_in _ (by omega)
        have w11 : IntKind.i64.wrap (u * 131 + v * 1117 + (p : Int) * 29) = u * 131 + v * 1117 + (p : Int) * 29 := IntWalk.i64_in _ (by omega)
        have w12 : IntKind.i64.wrap (d : Int) = (d : Int) := IntWalk.i64_in _ (by omega)
        have w13 : IntKind.i64.wrap ((d : Int) * 53) = (d : Int) * 53 := IntWalk.i64_in _ (by omega)
        have w14 : IntKind.i64.wrap (u * 131 + v * 1117 + (p : Int) * 29 + (d : Int) * 53) = u * 131 + v * 1117 + (p : Int) * 29 + (d : Int) * 53 := IntWalk.i64_in _ (by omega)
        have hx0 : 0 ≤ u * 131 + v * 1117 + (p : Int) * 29 + (d : Int) * 53 := by omega
        have hx1 : u * 131 + v * 1117 + (p : Int) * 29 + (d : Int) * 53 < 4611686018427387904 := by omega
        have hxr := xor_rng hx0 hx1
        go_wp2_with fail
        go_quiet (fail)
        clear w1 w2 w3 w4 w5 w6 w7 w8 w9 w10 w11 w12 w13 w14 e1 e4 e5
        go_wp2_with fail
        exact bodyPost_ret (results_tmp rfl _ _ _) rfl ⟨_, Int.emod_nonneg _ (by omega), Int.emod_lt_of_pos _ (by omega), rfl, HR.out, HE.out.drewN _⟩
end Go.Proofs.Ytfajaikkagmkeaa
