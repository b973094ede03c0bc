/- The walks of the laws of king: KingAgrees. -/
import Derived.Test.YtgiackgdceanhaaKingF
namespace Go.Proofs.Ytgiackgdceanhaa
set_option linter.unusedVariables false
set_option linter.unusedSimpArgs false
open Go.RowKit

def Tb (n f : Int) : Prop := 1 ≤ n ∧ n ≤ 10 ∧ 0 ≤ f ∧ f ≤ 3 ∧ 3 * f < n

set_option maxHeartbeats 1000000 in
theorem ref_table_yes (n f : Int) (w : World) (hT : Tb n f) :
    Calls Try.prog 29 #[.int .i64 n, .int .i64 f] w fun e w' => e = .returned (.bool true) ∧ w' = w := by
  obtain ⟨h1, h2, h3, h4, h5⟩ := hT
  go_enter Try.func29, Try.ntmps29
  go_wp2
  go_ret
  exact ⟨rfl, rfl⟩

set_option maxHeartbeats 2000000 in
theorem ref_table_no (n f : Int) (w : World) (hT : ¬ Tb n f) :
    Calls Try.prog 29 #[.int .i64 n, .int .i64 f] w fun e w' => e = .returned (.bool false) ∧ w' = w := by
  unfold Tb at hT
  by_cases h1 : 1 ≤ n
  · by_cases h2 : n ≤ 10
    · by_cases h3 : 0 ≤ f
      · by_cases h4 : f ≤ 3
        · have h5 : ¬ 3 * f < n := by omega
          have HT := Lib.hid hT; clear hT
          go_enter Try.func29, Try.ntmps29
          go_wp2
          go_ret
          exact ⟨rfl, rfl⟩
        · have HT := Lib.hid hT; clear hT
          go_enter Try.func29, Try.ntmps29
          go_wp2
          go_ret
          exact ⟨rfl, rfl⟩
      · have HT := Lib.hid hT; clear hT
        go_enter Try.func29, Try.ntmps29
        go_wp2
        go_ret
        exact ⟨rfl, rfl⟩
    · have HT := Lib.hid hT; clear hT
      go_enter Try.func29, Try.ntmps29
      go_wp2
      go_ret
      exact ⟨rfl, rfl⟩
  · have HT := Lib.hid hT; clear hT
    go_enter Try.func29, Try.ntmps29
    go_wp2
    go_ret
    exact ⟨rfl, rfl⟩

def fstOf (F : Nat → Bool) (x : Int) (i : Nat) : Int := if num i (fun j => !F j) = 0 then -1 else x
theorem fst_fail {F : Nat → Bool} {x : Int} {i : Nat} (h : F i = true) : fstOf F x (i+1) = fstOf F x i := by
  unfold fstOf; rw [num_succ]; simp [h]
theorem fst_good {F : Nat → Bool} {x : Int} {i : Nat} (h : F i = false) : fstOf F x (i+1) = x := by
  unfold fstOf; rw [num_succ]; simp [h]
theorem fst_bd {F : Nat → Bool} {x : Int} {i : Nat} (hx : x = 0 ∨ x = 1) : fstOf F x i = -1 ∨ fstOf F x i = x := by
  unfold fstOf; split <;> simp

theorem valOf_bd (zs : List Int) (i : Nat) : valOf zs i = 0 ∨ valOf zs i = 1 ∨ valOf zs i = 2 := by unfold valOf; split <;> simp

set_option maxRecDepth 100000 in
set_option maxHeartbeats 4000000 in
theorem king_agrees_any (n f s v set : Int) (A B : Option Addr) (cap bc : Nat) (zs ws : List Int) (w : World) (hm : zs.length ≤ 9223372036854775807) (hm2 : ws.length ≤ 9223372036854775807)
    (hA : ReadsI w A zs) (hB : ReadsI w B ws) :
    Calls Try.prog 6 #[.agg #[.int .i64 n, .int .i64 f, .int .i64 s, .int .i64 v], .slice A zs.length cap, .agg #[.int .i64 set, .slice B ws.length bc]] w fun e w' => e = .returned (.bool true) ∧ Below w.heap.size w w' := by
  by_cases hT : Tb n f
  · by_cases hw : ws.length ≤ 4000
    · obtain ⟨N, rfl⟩ : ∃ N : Nat, n = N := ⟨n.toNat, by unfold Tb at hT; omega⟩
      obtain ⟨F, rfl⟩ : ∃ F : Nat, f = F := ⟨f.toNat, by unfold Tb at hT; omega⟩
      have hTT := hT
      obtain ⟨t1, t2, t3, t4, t5⟩ := hTT
      go_enter Try.func6, Try.ntmps6
      go_wp2_with fail
      refine (ref_table_yes _ _ _ hT).mono ?_
      rintro e w1 ⟨rfl, hw1⟩
      obtain rfl := hw1.symm
      clear hw1
      go_wp2_with fail
      have hC0 : Chg [] w ((w.alloc (.cells #[.int .i64 N, .int .i64 F, .int .i64 s, .int .i64 v] 49)).alloc (.cells #[.int .i64 set, .slice B ws.length bc] 66)) := ((Chg.refl _ _).alloc _).alloc _
      refine (law_table N F (by omega) (by omega) A cap zs _ hm (hA.chg hC0 (by simp))).mono ?_
      rintro e w1 ⟨tv, bs, rfl, hown, hbl, hNd, hbb, hC1⟩
      have hsA : w1.heap[w.heap.size]? = some (.cells #[.int .i64 N, .int .i64 F, .int .i64 s, .int .i64 v] 49) := hC1.has (has_alloc (has_alloc_new _ _)) (by simp)
      have hsB : w1.heap[w.heap.size + 1]? = some (.cells #[.int .i64 set, .slice B ws.length bc] 66) := hC1.has (has_alloc_at (by simp)) (by simp)
      have hC := hC0.trans hC1
      have hB1 := hB.chg hC (by simp)
      have s0 : w1.cell? ⟨w.heap.size, 0, none⟩ = some (.int .i64 N) := cell_of_has hsA 0
      have s1 : w1.cell? ⟨w.heap.size, 1, none⟩ = some (.int .i64 F) := cell_of_has hsA 1
      have b0 : w1.cell? ⟨w.heap.size + 1, 0, none⟩ = some (.int .i64 set) := cell_of_has hsB 0
      have b1 : w1.cell? ⟨w.heap.size + 1, 1, none⟩ = some (.slice B ws.length bc) := cell_of_has hsB 1
      obtain ⟨g, cap2, rfl, hgR, hgl⟩ : ∃ g c2, tv = .slice (some ⟨g, 0, none⟩) N c2 ∧ NRow w1 g bs ∧ w.heap.size + 2 ≤ g := by
        have hown2 := hown
        rcases hown2.2 with ⟨_, h0⟩ | ⟨g, c2, cur, rfl, hbg, _⟩
        · omega
        · exact ⟨g, c2, rfl, NRow.of_own hown, by simpa using hbg⟩
      have hgb : g ∉ bs := by
        intro hm
        obtain ⟨cs, e⟩ := hgR.ty
        obtain ⟨cs', e'⟩ := hNd.has hm
        rw [e] at e'
        simp at e'
      have hBb : 0 < ws.length → ∀ b off, B = some ⟨b, off, none⟩ → b ∉ bs := by
        intro h0 b off hb hm
        obtain ⟨b', off', hb', h1, _⟩ := hB h0
        rw [hb] at hb'
        injection hb' with hb'
        injection hb' with hb'
        subst hb'
        have h2 := hbb b hm
        simp at h2
        omega
      have HBb := Lib.hid hBb; have Hbb := Lib.hid hbb; have HBL := Lib.hid hbl
      clear hBb hbb hbl hown hsA hA hB
      have hNN := hNd.len
      go_wp2_with fail
      refine (law_play N F (by omega) (by omega) g cap2 bs _ set B bc ws w1 hw hB1 HBb.out HBL.out hgR hNd (fun i => valOf_bd zs i)).mono ?_
      rintro e w2 ⟨rfl, sq, hsq0, hst, hN2, hC2⟩
      have hFn := (failB_num set F (by omega) N).1
      obtain ⟨x, hx, hall⟩ := agrees (n := N) (f := F) (F := failB set F) (sq := sq) ⟨by omega, by omega, hFn⟩ hst
      have hgR2 := hgR.chg hC2 hgb
      have hC2' : Chg [] w w2 := hC.trans_new hC2 (by
        intro b hb
        have := Hbb.out b hb
        simp at this
        exact .inr (by omega))
      have s0' : w2.cell? ⟨w.heap.size, 0, none⟩ = some (.int .i64 N) := hC2.cell s0 (by
        intro hb
        have := Hbb.out _ hb
        simp at this; omega)
      have s1' : w2.cell? ⟨w.heap.size, 1, none⟩ = some (.int .i64 F) := hC2.cell s1 (by
        intro hb
        have := Hbb.out _ hb
        simp at this; omega)
      have b0' : w2.cell? ⟨w.heap.size + 1, 0, none⟩ = some (.int .i64 set) := hC2.cell b0 (by
        intro hb
        have := Hbb.out _ hb
        simp at this; omega)
      have HST := Lib.hid hst; have HSQ := Lib.hid hsq0; have HALL := Lib.hid hall; have HGR := Lib.hid hgR2
      clear hst hsq0 hall hgR hgR2 hNd hC2
      go_wp2_with fail
      go_loopw [8, 47] (fun fs ix w3 => ∃ i : Nat, i ≤ N ∧ ix = .int .i64 i ∧ fs = .int .i64 (fstOf (failB set F) x i) ∧ Chg [] w2 w3) (fun _ ix _ => N - (intOf ix).toNat)
      case atStart => exact ⟨0, by omega, rfl, rfl, Chg.refl _ _⟩
      case round =>
        rename World => w3
        obtain ⟨i, hi, rfl, rfl, hC3⟩ := hrel
        have s1'' := hC3.cell s1' (by simp)
        have b0'' := hC3.cell b0' (by simp)
        have hfb := fst_bd (F := failB set F) (i := i) hx
        by_cases hin : i < N
        · have hptr := (HGR.out.chg hC3 (by simp)).at_ i (by rw [HBL.out]; exact hin)
          have hK := (hN2.chg hC3 (by simp)).at_ i (by rw [HBL.out]; exact hin)
          generalize bs.getD i 0 = b at *
          cases hF : failB set F i
          · have hxi := HALL.out i hin hF
            rw [hxi] at hK
            have hf1 := fst_good (F := failB set F) (x := x) (i := i) hF
            have HF1 := Lib.hid hf1; clear hf1 hxi
            generalize fstOf (failB set F) x i = y at *
            have HXX := Lib.hid hx
            have HAL : ∃ R : KS, sq (3 * (F + 1)) i = R := ⟨_, rfl⟩
            clear HAL
            rcases hx with rfl | rfl <;> rcases hfb with rfl | rfl
            all_goals
              go_wp2_with fail
              refine (law_fails set F i (by omega) _).mono ?_
              rw [hF]
              rintro e w4 ⟨rfl, hw4⟩
              obtain rfl := hw4.symm
              clear hw4
              go_wp2_with fail
              refine (king_done_yes b N F _ _ _ _ _ hK (by omega) (by omega) rfl).mono ?_
              rintro e w4 ⟨rfl, q, rfl⟩
              go_wp2_with fail
              exact ⟨⟨i+1, by omega, by go_num, by rw [HF1.out], hC3.drewN q⟩, by simp [intOf]; omega⟩
          · have hf1 := fst_fail (F := failB set F) (x := x) (i := i) hF
            have HF1 := Lib.hid hf1; clear hf1
            generalize fstOf (failB set F) x i = y at *
            go_wp2_with fail
            refine (law_fails set F i (by omega) _).mono ?_
            rw [hF]
            rintro e w4 ⟨rfl, hw4⟩
            obtain rfl := hw4.symm
            clear hw4
            go_wp2_with fail
            exact ⟨⟨i+1, by omega, by go_num, by rw [HF1.out], hC3⟩, by simp [intOf]; omega⟩
        · obtain rfl : N = i := by omega
          have hfx : fstOf (failB set F) x N = x := by
            unfold fstOf
            have := num_not N (failB set F)
            rw [if_neg (by omega)]
          rw [hfx]
          rcases hx with rfl | rfl
          all_goals
            go_wp2_with fail
            refine (king_one _).mono ?_
            rintro e w4 ⟨rfl, hb4⟩
            go_wp2_with fail
            go_ret
            exact ⟨rfl, ((hC2'.trans_new hC3 (by simp)).trans_new (Chg.of_below hb4 []) (by simp)).below⟩
    · go_enter Try.func6, Try.ntmps6
      go_wp2_with fail
      refine (ref_table_yes _ _ _ hT).mono ?_
      rintro e w1 ⟨rfl, hw1⟩
      obtain rfl := hw1.symm
      clear hw1
      have hw2 : decide ((4000 : Int) < ws.length) = true := decide_eq_true (by omega)
      go_wp2_with fail
      refine (king_one _).mono ?_
      rintro e w4 ⟨rfl, hb4⟩
      go_wp2_with fail
      go_ret
      exact ⟨rfl, (((((Chg.refl [] _).alloc _).alloc _)).trans_new (Chg.of_below hb4 []) (by simp)).below⟩
  · go_enter Try.func6, Try.ntmps6
    go_wp2_with fail
    refine (ref_table_no _ _ _ hT).mono ?_
    rintro e w1 ⟨rfl, hw1⟩
    obtain rfl := hw1.symm
    clear hw1
    go_wp2_with fail
    refine (king_one _).mono ?_
    rintro e w4 ⟨rfl, hb4⟩
    go_wp2_with fail
    go_ret
    exact ⟨rfl, (((((Chg.refl [] _).alloc _).alloc _)).trans_new (Chg.of_below hb4 []) (by simp)).below⟩

end Go.Proofs.Ytgiackgdceanhaa
