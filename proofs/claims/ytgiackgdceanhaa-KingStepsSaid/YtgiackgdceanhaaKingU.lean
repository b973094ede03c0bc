/- KingSteps: the walk. -/
import Derived.Test.YtgiackgdceanhaaKingT
import Derived.Deep.Matrix
import Derived.Deep.RegionWith
namespace Go.Proofs.Ytgiackgdceanhaa
set_option linter.unusedVariables false
set_option linter.unusedSimpArgs false
open Go.RowKit

/-- A slice of slices of whole numbers. -/
def ReadsII (w : World) (A : Option Addr) (rows : List (List Int)) : Prop :=
  0 < rows.length → ∃ b off, A = some ⟨b, off, none⟩ ∧ b < w.heap.size ∧ ∀ i, i < rows.length → ∃ a c, w.cell? ⟨b, off + i, none⟩ = some (.slice a (rows.getD i []).length c) ∧
    ReadsI w a (rows.getD i []) ∧ (rows.getD i []).length ≤ 9223372036854775807

theorem ReadsII.chg {S : List Nat} {w w' : World} {A : Option Addr} {rows : List (List Int)} (h : ReadsII w A rows) (hc : Chg S w w') (hs : ∀ b, b < w.heap.size → b ∉ S) : ReadsII w' A rows := fun hn => by
  obtain ⟨b, off, e, hb, hx⟩ := h hn
  refine ⟨b, off, e, Nat.lt_of_lt_of_le hb hc.size, fun i hi => ?_⟩
  obtain ⟨a, c, h1, h2, h3⟩ := hx i hi
  refine ⟨a, c, (World.cell?_of_block (hc.block b hb (hs b hb))).trans h1, fun h0 => ?_, h3⟩
  obtain ⟨b', o', e', hb', hy⟩ := h2 h0
  exact ⟨b', o', e', Nat.lt_of_lt_of_le hb' hc.size, fun j hj => (World.cell?_of_block (hc.block b' hb' (hs b' hb'))).trans (hy j hj)⟩

set_option maxRecDepth 100000 in
set_option maxHeartbeats 4000000 in
theorem king_steps_any (n f s v : Int) (A : Option Addr) (cap : Nat) (rows : List (List Int)) (w : World) (hm : rows.length ≤ 9223372036854775807) (hA : ReadsII w A rows) :
    Calls Try.prog 5 #[.agg #[.int .i64 n, .int .i64 f, .int .i64 s, .int .i64 v], .slice A rows.length cap] w fun e w' => e = .returned (.bool true) ∧ Below w.heap.size w w' := by
  by_cases hk : okNew n f s v
  · by_cases hlen : rows.length ≤ 100
    · go_enter Try.func5, Try.ntmps5
      go_wp2_with fail
      refine (king_new_ok n f s v _ hk).mono ?_
      rintro e w1 ⟨rfl, hw1⟩
      subst hw1
      go_wp2_with fail
      refine (ref_new_ok n f s v _ hk).mono ?_
      rintro e w1 ⟨rfl, hw1⟩
      subst hw1
      obtain ⟨k1, k2, k3, k4, k5, k6, k7⟩ := hk
      go_wp2_with fail
      generalize hW : ((w.alloc (.cells #[.int .i64 n, .int .i64 f, .int .i64 s, .int .i64 v] 49)).alloc (kingObj n f s v 0 false)).alloc (refObj n f s v 0 0) = W0
      have hC0 : Chg [] w W0 := by rw [← hW]; exact (((Chg.refl _ _).alloc _).alloc _).alloc _
      have hKN : KN W0 (w.heap.size + 1) n f s v 0 false := ⟨by rw [← hW]; exact has_alloc (has_alloc_at (by simp))⟩
      have hRN : RN W0 (w.heap.size + 1 + 1) n f s v 0 0 := ⟨by rw [← hW]; exact has_alloc_at (by simp)⟩
      clear hW
      have hne : w.heap.size + 1 ≠ w.heap.size + 1 + 1 := by omega
      have hbx : w.heap.size ≤ w.heap.size + 1 := by omega
      have hby : w.heap.size ≤ w.heap.size + 1 + 1 := by omega
      generalize w.heap.size + 1 + 1 = bY at *
      generalize w.heap.size + 1 = bx at *
      go_loopw [57] (fun ix wr => ∃ (k : Nat) (v' r q : Int) (bk : Bool), k ≤ rows.length ∧ ix = .int .i64 k ∧ KN wr bx n f s v' r bk ∧ RN wr bY n f s v' r q ∧ bk = decide (n - f ≤ q) ∧
         (v' = 0 ∨ v' = 1 ∨ v' = 2) ∧ (0 ≤ q ∧ q ≤ 100) ∧ (0 ≤ r ∧ r ≤ 3 * (f + 1)) ∧ Chg [] w wr) (fun ix _ => rows.length - (intOf ix).toNat)
      case atStart => exact ⟨0, v, 0, 0, false, by omega, rfl, hKN, hRN, by simp; omega, by omega, by omega, by omega, hC0⟩
      case round =>
        obtain ⟨k, v', r, q, bk, hk, rfl, hK, hR, hbk, hv', hq, hr, hC⟩ := hrel
        have HBK := Lib.hid hbk; have HV' := Lib.hid hv'
        clear hbk hv' hKN hRN hC0
        by_cases hlt : k < rows.length
        · obtain ⟨b, off, rfl, hb, hrow⟩ := hA (by omega)
          obtain ⟨a, c, hcell0, hrd, hrl⟩ := hrow k hlt
          have hcell := hC.cell hcell0 (by simp)
          clear hcell0
          clear hrow hA
          generalize rows.getD k [] = zs at *
          have hR4 := hR.c4
          have hR3 := hR.c3
          by_cases hov : r = 3 * (f + 1)
          · subst hov
            have f100 : f ≤ 100 := by omega
            have hsnd := king_send bx n f s v' _ bk _ hK k3 f100
            rw [if_pos rfl] at hsnd
            have hsnd2 := fun q1 => ref_send bY n f s v' _ q _ (hR.drewN q1) k3 f100
            simp only [if_true] at hsnd2
            have HS1 := Lib.hid hsnd; have HS2 := Lib.hid hsnd2
            clear hsnd hsnd2
            go_wp2_with fail
            refine HS1.out.mono ?_
            rintro e w2 ⟨rfl, q1, rfl⟩
            go_wp2_with fail
            refine (HS2.out q1).mono ?_
            rintro e w2 ⟨rfl, q2, rfl⟩
            go_wp2_with fail
            refine (king_rounds bx n f s v' _ bk (wr.drewN (q1 + q2)) ⟨hK.h⟩ (by omega) (by omega)).mono ?_
            rintro e w2 ⟨rfl, hw2⟩
            obtain rfl := hw2.symm
            clear hw2
            go_wp2_with fail
            refine (ref_rounds bY n f s v' _ q (wr.drewN (q1 + q2)) ⟨hR.h⟩ (by omega) (by omega)).mono ?_
            rintro e w2 ⟨rfl, hw2⟩
            obtain rfl := hw2.symm
            clear hw2
            go_wp2_with fail
            go_region_with (first
              | (go_at_call 25; refine Calls.mono (king_hear_over bx n f s v' _ bk _ _ ?_ (by omega) rfl) ?_; exact ⟨hK.h⟩; rintro e w3 ⟨rfl, q3, rfl⟩)
              | (go_at_call 26; refine Calls.mono (ref_hear_over bY n f s v' _ q _ _ ?_ (by omega) rfl) ?_; exact ⟨hR.h⟩; rintro e w3 ⟨rfl, q4, rfl⟩)
              | (go_at_call 27; refine Calls.mono (king_round bx n f s v' (3 * (f + 1)) bk _ ?_) ?_; exact ⟨hK.h⟩; rintro e w3 ⟨rfl, hw3⟩; rw [hw3]; clear hw3))
            all_goals
              go_wp2_with fail
              refine Calls.mono (king_done_yes bx n f s v' (3 * (f + 1)) bk _ ?_ k3 f100 rfl) ?_
              · exact ⟨hK.h⟩
              rintro e w4 ⟨rfl, q5, rfl⟩
              go_wp2_with fail
              go_quiet ((go_at_call 24; first | exact Calls.quiet_of_same (ref_rounds bY n f s v' _ q _ ⟨hR.h⟩ k3 f100) | exact quiet_add_same (ref_rounds bY n f s v' _ q _ ⟨hR.h⟩ k3 f100)))
              go_wp2_with fail
              refine ⟨⟨k+1, v', _, q, bk, by omega, by go_num, ⟨hK.h⟩, ⟨hR.h⟩, HBK.out, HV'.out, hq, hr, ?_⟩, by simp [intOf]; omega⟩
              repeat first | exact hC | apply Chg.drewN
          · by_cases hln : (zs.length : Int) = n
            · obtain ⟨c0, o0, rfl, hc0, hcc⟩ := hrd (by omega)
              have hrdC : ∀ W', Chg [] w W' → ReadsI W' (some ⟨c0, o0, none⟩) zs := fun W' hh _ => ⟨c0, o0, rfl, Nat.lt_of_lt_of_le hc0 hh.size, fun j hj => hh.cell (hcc j hj) (by simp)⟩
              have hcx : c0 ≠ bx := by omega
              have hcy : c0 ≠ bY := by omega
              have HRD := Lib.hid hrdC
              clear hrdC hcc hrd
              have f100 : f ≤ 100 := by omega
              have hrb : (r == 3 * (f + 1)) = false := by simpa using hov
              have hsnd := king_send bx n f s v' r bk _ hK k3 f100
              rw [if_neg hov] at hsnd
              have hsnd2 : ∀ q1, Calls Try.prog 22 #[.pointer (some ⟨bY, 0, none⟩)] (wr.drewN q1) fun e w' => e = .returned (.int .i64 v') ∧ ∃ k, w' = (wr.drewN q1).drewN k := fun q1 => by
                have := ref_send bY n f s v' r q _ (hR.drewN q1) k3 f100
                rwa [if_neg hov] at this
              have HS1 := Lib.hid hsnd; have HS2 := Lib.hid hsnd2
              have HOV := Lib.hid hov
              clear hsnd hsnd2 hov
              go_wp2_with fail
              refine HS1.out.mono ?_
              rintro e w2 ⟨rfl, q1, rfl⟩
              go_wp2_with fail
              refine (HS2.out q1).mono ?_
              rintro e w2 ⟨rfl, q2, rfl⟩
              go_wp2_with fail
              refine (king_rounds bx n f s v' _ bk (wr.drewN (q1 + q2)) ⟨hK.h⟩ k3 f100).mono ?_
              rintro e w2 ⟨rfl, hw2⟩
              obtain rfl := hw2.symm
              clear hw2
              go_wp2_with fail
              refine (ref_rounds bY n f s v' _ q (wr.drewN (q1 + q2)) ⟨hR.h⟩ k3 f100).mono ?_
              rintro e w2 ⟨rfl, hw2⟩
              obtain rfl := hw2.symm
              clear hw2
              go_wp2_with fail
              generalize hHV : hearV n f v' r bk zs = hv
              obtain ⟨V2, BK2⟩ := hv
              have HHV := Lib.hid hHV
              clear hHV
              go_region_with (first
                | (go_at_call 25; refine Calls.mono (king_hear_ok bx n f s v' r bk (some ⟨c0, o0, none⟩) c zs _ ?_ (by omega) HOV.out HV'.out hr.1 (by have := HOV.out; omega) (by omega) (by omega) hln ?_ ?_) ?_; exact ⟨hK.h⟩; exact HRD.out _ (hC.drewN _); intro c o hco; simp at hco; omega; rw [HHV.out]; rintro e w3 ⟨rfl, hK3, hC3⟩)
                | (go_at_call 26; go_loud (refine Calls.mono (ref_hear_ok bY n f s v' r q (some ⟨c0, o0, none⟩) zs.length c zs _ ?_ (by omega) HOV.out HV'.out hq bk HBK.out hr.1 (by have := HOV.out; omega) (by omega) (by omega) rfl hln ?_ ?_) ?_; exact RN.chg (w := wr.drewN (q1 + q2 + 1)) ⟨hR.h⟩ hC3 (by simp; omega); exact HRD.out _ ((hC.drewN _).trans_new hC3 (by simp; omega)); intro c o hco; simp at hco; omega; rw [HHV.out]; rintro e w4 ⟨rfl, q9, hR4', hBK4, hq9, hC4⟩; have g4 := hR4'.c4; have g3 := hR4'.c3))
                | (go_at_call 27; go_loud (refine Calls.mono (king_round bx n f s V2 (r + 1) BK2 _ ?_) ?_; exact hK3.chg hC4 (by simp; omega); rintro e w5 ⟨rfl, hw5⟩; rw [hw5]; clear hw5)))
              all_goals
                have HB4 := Lib.hid hBK4; clear hBK4
                have hKK := hK3.chg hC4 (by simp; omega)
                have hV2 := hearV_cases n f v' r bk zs HV'.out
                rw [HHV.out] at hV2
                have HV2 := Lib.hid hV2; clear hV2
                have hCC : Chg [] w w4 := ((hC.drewN (q1 + q2 + 1)).trans_new hC3 (by simp; omega)).trans_new hC4 (by simp; omega)
                by_cases hdone : r + 1 = 3 * (f + 1)
                · have hd1 : (r + 1 == 3 * (f + 1)) = true := by simpa using hdone
                  have HD := Lib.hid hdone; clear hdone
                  go_wp2_with fail
                  refine Calls.mono (king_done_yes bx n f s V2 (r + 1) BK2 _ hKK k3 f100 HD.out) ?_
                  rintro e w6 ⟨rfl, q5, rfl⟩
                  go_wp2_with fail
                  go_quiet ((go_at_call 24; first | exact Calls.quiet_of_same (ref_rounds bY n f s V2 _ q9 _ ⟨hR4'.h⟩ k3 f100) | exact quiet_add_same (ref_rounds bY n f s V2 _ q9 _ ⟨hR4'.h⟩ k3 f100)))
                  go_wp2_with fail
                  refine ⟨⟨k+1, V2, r + 1, q9, BK2, by omega, by go_num, ⟨hKK.h⟩, ⟨hR4'.h⟩, HB4.out, HV2.out, hq9, by have := HD.out; omega, ?_⟩, by simp [intOf]; omega⟩
                  repeat first | exact hCC | apply Chg.drewN
                · have hd1 : (r + 1 == 3 * (f + 1)) = false := by simpa using hdone
                  have HD := Lib.hid hdone; clear hdone
                  go_wp2_with fail
                  refine Calls.mono (king_done_no bx n f s V2 (r + 1) BK2 _ hKK k3 f100 HD.out) ?_
                  rintro e w6 ⟨rfl, q5, rfl⟩
                  go_wp2_with fail
                  go_quiet ((go_at_call 24; first | exact Calls.quiet_of_same (ref_rounds bY n f s V2 _ q9 _ ⟨hR4'.h⟩ k3 f100) | exact quiet_add_same (ref_rounds bY n f s V2 _ q9 _ ⟨hR4'.h⟩ k3 f100)))
                  go_wp2_with fail
                  refine ⟨⟨k+1, V2, r + 1, q9, BK2, by omega, by go_num, ⟨hKK.h⟩, ⟨hR4'.h⟩, HB4.out, HV2.out, hq9, by have := HOV.out; have := HD.out; omega, ?_⟩, by simp [intOf]; omega⟩
                  repeat first | exact hCC | apply Chg.drewN
            · have f100 : f ≤ 100 := by omega
              have hrb : (r == 3 * (f + 1)) = false := by simpa using hov
              have hsnd := king_send bx n f s v' r bk _ hK k3 f100
              rw [if_neg hov] at hsnd
              have hsnd2 : ∀ q1, Calls Try.prog 22 #[.pointer (some ⟨bY, 0, none⟩)] (wr.drewN q1) fun e w' => e = .returned (.int .i64 v') ∧ ∃ k, w' = (wr.drewN q1).drewN k := fun q1 => by
                have := ref_send bY n f s v' r q _ (hR.drewN q1) k3 f100
                rwa [if_neg hov] at this
              have HS1 := Lib.hid hsnd; have HS2 := Lib.hid hsnd2
              have HOV := Lib.hid hov
              clear hsnd hsnd2 hov
              go_wp2_with fail
              refine HS1.out.mono ?_
              rintro e w2 ⟨rfl, q1, rfl⟩
              go_wp2_with fail
              refine (HS2.out q1).mono ?_
              rintro e w2 ⟨rfl, q2, rfl⟩
              go_wp2_with fail
              refine (king_rounds bx n f s v' _ bk (wr.drewN (q1 + q2)) ⟨hK.h⟩ k3 f100).mono ?_
              rintro e w2 ⟨rfl, hw2⟩
              obtain rfl := hw2.symm
              clear hw2
              go_wp2_with fail
              refine (ref_rounds bY n f s v' _ q (wr.drewN (q1 + q2)) ⟨hR.h⟩ k3 f100).mono ?_
              rintro e w2 ⟨rfl, hw2⟩
              obtain rfl := hw2.symm
              clear hw2
              go_wp2_with fail
              go_region_with (first
                | (go_at_call 25; refine Calls.mono (king_hear_len bx n f s v' r bk a _ c _ ?_ (by omega) HOV.out hln hrl) ?_; exact ⟨hK.h⟩; rintro e w3 ⟨rfl, q3, rfl⟩)
                | (go_at_call 26; refine Calls.mono (ref_hear_len bY n f s v' r q a _ c _ ?_ (by omega) HOV.out hln hrl) ?_; exact ⟨hR.h⟩; rintro e w3 ⟨rfl, q4, rfl⟩)
                | (go_at_call 27; refine Calls.mono (king_round bx n f s v' r bk _ ?_) ?_; exact ⟨hK.h⟩; rintro e w3 ⟨rfl, hw3⟩; rw [hw3]; clear hw3))
              all_goals
                go_wp2_with fail
                refine Calls.mono (king_done_no bx n f s v' r bk _ ?_ k3 f100 HOV.out) ?_
                · exact ⟨hK.h⟩
                rintro e w4 ⟨rfl, q5, rfl⟩
                go_wp2_with fail
                go_quiet ((go_at_call 24; first | exact Calls.quiet_of_same (ref_rounds bY n f s v' _ q _ ⟨hR.h⟩ k3 f100) | exact quiet_add_same (ref_rounds bY n f s v' _ q _ ⟨hR.h⟩ k3 f100)))
                go_wp2_with fail
                refine ⟨⟨k+1, v', _, q, bk, by omega, by go_num, ⟨hK.h⟩, ⟨hR.h⟩, HBK.out, HV'.out, hq, hr, ?_⟩, by simp [intOf]; omega⟩
                repeat first | exact hC | apply Chg.drewN
        · have hkk : k = rows.length := by omega
          have hd : decide (k < rows.length) = false := decide_eq_false (by omega)
          have HKK := Lib.hid hkk; clear hkk
          go_wp2_with fail
          refine (king_one _).mono ?_
          rintro e w4 ⟨rfl, hb4⟩
          go_wp2_with fail
          go_ret
          exact ⟨rfl, (hC.trans_new (Chg.of_below hb4 []) (by simp)).below⟩
    · go_enter Try.func5, Try.ntmps5
      go_wp2_with fail
      refine (king_new_ok n f s v _ hk).mono ?_
      rintro e w1 ⟨rfl, hw1⟩
      subst hw1
      go_wp2_with fail
      refine (ref_new_ok n f s v _ hk).mono ?_
      rintro e w1 ⟨rfl, hw1⟩
      subst hw1
      obtain ⟨k1, k2, k3, k4, k5, k6, k7⟩ := hk
      have hd : decide ((100 : Int) < rows.length) = true := decide_eq_true (by omega)
      go_wp2_with fail
      refine (king_one _).mono ?_
      rintro e w4 ⟨rfl, hb4⟩
      go_wp2_with fail
      go_ret
      exact ⟨rfl, (((((Chg.refl [] _).alloc _).alloc _).alloc _).trans_new (Chg.of_below hb4 []) (by simp)).below⟩
  · go_enter Try.func5, Try.ntmps5
    go_wp2_with fail
    refine (king_new_no n f s v _ hk).mono ?_
    rintro e w1 ⟨rfl, hw1⟩
    subst hw1
    go_wp2_with fail
    refine (ref_new_no n f s v _ hk).mono ?_
    rintro e w1 ⟨rfl, hw1⟩
    subst hw1
    have HK := Lib.hid hk; clear hk
    go_wp2_with fail
    refine (king_one _).mono ?_
    rintro e w4 ⟨rfl, hb4⟩
    go_wp2_with fail
    go_ret
    exact ⟨rfl, ((((Chg.refl [] _).alloc _)).trans_new (Chg.of_below hb4 []) (by simp)).below⟩


section
open Go.WideShapes Go.ChangeShapes
variable {H : Type} (enc : TypeId × Value → H) (W : World)

theorem addr_lit {a : Addr} {i : Nat} {v : Value} (h : W.cell? (a.add i) = some v) (h0 : ∃ u, W.cell? (a.add 0) = some u) : ∃ b off, a = ⟨b, off, none⟩ ∧ b < W.heap.size ∧ W.cell? ⟨b, off + i, none⟩ = some v := by
  obtain ⟨u, hu⟩ := h0
  obtain ⟨b, off, sp⟩ := a
  cases sp with
  | some s => simp [Addr.add, World.cell?] at hu; split at hu <;> simp at hu
  | none =>
    refine ⟨b, off, rfl, ?_, ?_⟩
    · have := World.block_lt_of_cell? W _ hu
      simpa [Addr.add] using this
    · rw [addr_add_none] at h; exact h

theorem open_told {v : Value} {d : DataW H} {p : List MemPlace} {base : Nat} (h : DataW.Trod enc Try.prog W 0 (fun _ => true) true 50 v d p) (hk : Value.okWide Try.prog W .any base 50 v) :
    ∃ (A : Option Addr) (c : Nat) (rows : List (List Int)), v = .slice A rows.length c ∧ ReadsII W A rows ∧ rows.length ≤ 9223372036854775807 := by
  obtain ⟨a, len, cap, rfl⟩ := okWide_slice Try.underlying50 hk
  obtain ⟨m, hm⟩ := h
  rcases Deep.open_int_rows Try.underlying50 Try.underlying22 Try.underlying3 (by kernel_rfl) (by kernel_rfl) hm with ⟨hcs, _⟩ | ⟨a, len', cap', A, L, C, Z, hcs, _, hl, hcm, _, hr⟩
  · simp [Value.cells] at hcs
    obtain ⟨rfl, rfl, rfl⟩ := hcs
    exact ⟨none, 0, [], rfl, fun h0 => by simp at h0, by simp⟩
  · simp [Value.cells] at hcs
    obtain ⟨rfl, rfl, rfl⟩ := hcs
    have hget : ∀ i, i < len → ((List.range len).map fun r => (Z r).take (L r)).getD i [] = (Z i).take (L i) := by
      intro i hi
      simp [hi]
    refine ⟨some a, cap, (List.range len).map fun r => (Z r).take (L r), by simp, ?_, ?_⟩
    · intro h0
      have h0' : 0 < len := by simpa using h0
      have hc0 := (hr 0 (by omega)).1
      obtain ⟨b, off, rfl, hb, _⟩ := addr_lit W hc0 ⟨_, hc0⟩
      refine ⟨b, off, rfl, hb, fun i hi => ?_⟩
      have hi' : i < len := by simpa using hi
      rw [hget i hi']
      obtain ⟨r1, r2, r3, r4, r5, r6, r7⟩ := hr i (by omega)
      rw [addr_add_none] at r1
      have hlen : ((Z i).take (L i)).length = L i := by rw [List.length_take]; omega
      refine ⟨A i, C i, by rw [hlen]; exact r1, fun hp => ?_, by rw [hlen]; simp only [maxLen] at r3; omega⟩
      rw [hlen] at hp
      cases hA : A i with
      | none => have := r6 hA; omega
      | some a' =>
        have hx := (r7 a' hA).2
        obtain ⟨b', off', rfl, hb', _⟩ := addr_lit W (hx 0 (by omega)) ⟨_, hx 0 (by omega)⟩
        refine ⟨b', off', rfl, hb', fun j hj => ?_⟩
        have hj' : j < L i := by rw [hlen] at hj; exact hj
        have := hx j (by omega)
        rw [addr_add_none] at this
        rw [this]
        simp [List.getD, List.getElem?_take, hj']
    · simp only [maxLen] at hcm
      simp
      omega

set_option maxRecDepth 100000 in
theorem kingSteps_law {v0 v1 : Value} {d0 d1 : DataW H} {p0 p1 : List MemPlace} {base : Nat}
    (h0 : DataW.Trod enc Try.prog W 0 (fun _ => true) true 49 v0 d0 p0) (k0 : Value.okWide Try.prog W .any base 49 v0)
    (h1 : DataW.Trod enc Try.prog W 0 (fun _ => true) true 50 v1 d1 p1) (k1 : Value.okWide Try.prog W .any base 50 v1)
    (_hsz : (DataW.weightsEach Try.prog [49, 50] [d0, d1]).all (· ≤ reachBytes) = true) :
    Calls Try.prog 5 #[v0, v1] W fun e w' => e = .returned (.bool true) ∧ Below W.heap.size W w' := by
  obtain ⟨n, f, s, x, rfl, _, _, _, _⟩ := open_seat enc W h0 k0
  obtain ⟨A, c, rows, rfl, rA, hA⟩ := open_told enc W h1 k1
  exact king_steps_any n f s x A c rows W hA rA
end

end Go.Proofs.Ytgiackgdceanhaa
