/- KingAlone: the walk. -/
import Derived.Test.YtgiackgdceanhaaKingK
namespace Go.Proofs.Ytgiackgdceanhaa
set_option linter.unusedVariables false
set_option linter.unusedSimpArgs false
open Go.RowKit

theorem no_fail (f : Int) (i : Nat) : failB 0 f i = false := by
  have h : bitB 0 i = false := by
    unfold bitB
    rw [Int.zero_ediv]
    decide
  simp [failB, h]

set_option maxRecDepth 100000 in
set_option maxHeartbeats 4000000 in
theorem king_alone_any (n V : Int) (w : World) :
    Calls Try.prog 9 #[.int .i64 n, .int .i64 V] w fun e w' => e = .returned (.bool true) ∧ Below w.heap.size w w' := by
  by_cases hn : 1 ≤ n
  · by_cases hn2 : n ≤ 10
    · by_cases hV : V = 0 ∨ V = 1
      · obtain ⟨N, rfl⟩ : ∃ N : Nat, n = N := ⟨n.toNat, by omega⟩
        obtain ⟨F, hF⟩ : ∃ F : Nat, ((N : Int) - 1).tdiv 3 = F := ⟨((N-1)/3), by rw [Int.tdiv_eq_ediv_of_nonneg (by omega)]; omega⟩
        have hFb : 3 * F < N := by rw [Int.tdiv_eq_ediv_of_nonneg (by omega)] at hF; omega
        have HVV := Lib.hid hV
        rcases hV with hV0 | hV0
        all_goals
          have HV0 := Lib.hid hV0
          first
          | (have z0 : (V != 0) = false := by rw [hV0]; rfl)
          | (have z0 : (V != 0) = true := by rw [hV0]; rfl
             have z1 : (V != 1) = false := by rw [hV0]; rfl)
          clear hV0
          go_enter Try.func9, Try.ntmps9
          go_wp2_with fail
          go_loopw [5, 6] (fun v ix w3 => ∃ i : Nat, i ≤ N ∧ ix = .int .i64 i ∧ w3.ownsRow w.heap.size 3 1 v i (ints (keepL (failB 0 F) V i)) ∧ Chg [] w w3) (fun _ ix _ => N - (intOf ix).toNat)
          case atStart => exact ⟨0, by omega, rfl, World.ownsRow_nil _ _ _ _, Chg.refl _ _⟩
          case round =>
            rename World => w3
            obtain ⟨i, hi, rfl, hown, hC3⟩ := hrel
            have hsz3 := hC3.size
            by_cases hin : i < N
            · have HK := Lib.hid (keepL_succ (failB 0 F) V i)
              go_wp2_with (at_builtin; go_loud (refine wpList_push rfl (.tmp 32) (.tmp 34) 22 rfl elem_int w.heap.size rfl (hown.alloc _) w3.heap.size _ rfl rfl (has_alloc_at (by first | rfl | (simp; done))) (by simp [Value.oneCell']) (by omega) (by omega) (by simp; omega) ?_); intro v' w1 hown1 hg1 hat1)
              refine ⟨⟨i+1, by omega, by go_num, ?_, ?_⟩, by simp [intOf]; omega⟩
              · rw [HK.out, no_fail]; simpa [ints] using hown1
              · exact (hC3.alloc _).grown hg1 (fun b' hb' => .inr (hown.lt b' hb').1)
            · obtain rfl : N = i := by omega
              obtain ⟨gv, capv, curv, rfl, hRv, hgv, hgvl, _, hlen⟩ := own_ints hown (by omega)
              clear hown
              go_wp2_with fail
              refine (law_table' N F (by omega) (by omega) (some ⟨gv, 0, none⟩) N capv (keepL (failB 0 F) V N) _ (keepL_len _ _ _) (by omega) hRv).mono ?_
              rintro e w1 ⟨tv, bs, rfl, hown, hbl, hNd, hbb, hC1⟩
              have hC5 := hC3.trans hC1
              obtain ⟨g, cap2, rfl, hgR, hgl⟩ : ∃ g c2, tv = .slice (some ⟨g, 0, none⟩) N c2 ∧ NRow w1 g bs ∧ w3.heap.size ≤ g := by
                have hown2 := hown
                rcases hown2.2 with ⟨_, h0⟩ | ⟨g, c2, cur, rfl, hbg, _⟩
                · omega
                · exact ⟨g, c2, rfl, NRow.of_own hown, by simpa using hbg⟩
              have hgb : g ∉ bs := by
                intro hm
                obtain ⟨cs, e⟩ := hgR.ty
                obtain ⟨cs', e'⟩ := hNd.has hm
                rw [e] at e'
                simp at e'
              have hbb2 : ∀ b ∈ bs, w.heap.size ≤ b := by
                intro b hb
                have := hbb b hb
                have h3 := hC3.size
                omega
              have hvals : ∀ i, i < N → failB 0 F i = false → valOf (keepL (failB 0 F) V N) i = V := fun i hi hF => keepL_val _ _ HVV.out _ _ hi hF
              have Hbb := Lib.hid hbb2; have HBL := Lib.hid hbl; have HVal := Lib.hid hvals
              clear hbb2 hbb hbl hvals hown hC1 hC3
              have hNN := hNd.len
              go_wp2_with fail
              refine (law_play N F (by omega) (by omega) g cap2 bs _ 0 none 0 [] w1 (by simp) (by intro h; simp at h) (by intro h; simp at h) HBL.out hgR hNd (fun i => valOf_bd _ i)).mono ?_
              rintro e w2 ⟨rfl, sq, hsq0, hst, hN2, hC2⟩
              have hFn := (failB_num 0 F (by omega) N).1
              have hall := keeps (n := N) (f := F) (F := failB 0 F) (sq := sq) (x := V) ⟨by omega, by omega, hFn⟩ HVV.out hst (by
                intro i hi hF
                rw [hsq0]
                exact HVal.out i hi hF)
              have hgR2 := hgR.chg hC2 hgb
              have hC2' : Chg [] w w2 := hC5.trans_new hC2 (by
                intro b hb
                have := Hbb.out b hb
                exact .inr (by omega))
              have HST := Lib.hid hst; have HSQ := Lib.hid hsq0; have HALL := Lib.hid hall; have HGR := Lib.hid hgR2
              clear hst hsq0 hall hgR hgR2 hNd hC2 hFn
              go_wp2_with fail
              go_loopw [57] (fun ix w4 => ∃ i : Nat, i ≤ N ∧ ix = .int .i64 i ∧ Chg [] w2 w4) (fun ix _ => N - (intOf ix).toNat)
              case atStart => exact ⟨0, by omega, rfl, Chg.refl _ _⟩
              case round =>
                rename World => w4
                obtain ⟨i, hi, rfl, hC4⟩ := hrel
                by_cases hin : i < N
                · have hptr := (HGR.out.chg hC4 (by simp)).at_ i (by rw [HBL.out]; exact hin)
                  have hK := (hN2.chg hC4 (by simp)).at_ i (by rw [HBL.out]; exact hin)
                  generalize bs.getD i 0 = b at *
                  have hxi := HALL.out i hin (no_fail _ _)
                  rw [hxi] at hK
                  clear hxi
                  go_wp2_with fail
                  refine (king_done_yes b N F _ _ _ _ _ hK (by omega) (by omega) rfl).mono ?_
                  rintro e w5 ⟨rfl, q, rfl⟩
                  go_wp2_with fail
                  exact ⟨⟨i+1, by omega, by go_num, hC4.drewN q⟩, by simp [intOf]; omega⟩
                · obtain rfl : N = i := by omega
                  go_wp2_with fail
                  refine (king_one _).mono ?_
                  rintro e w5 ⟨rfl, hb5⟩
                  go_wp2_with fail
                  go_ret
                  exact ⟨rfl, ((hC2'.trans_new hC4 (by simp)).trans_new (Chg.of_below hb5 []) (by simp)).below⟩
      · have z0 : (V != 0) = true := by simp; omega
        have z1 : (V != 1) = true := by simp; omega
        have HV := Lib.hid hV; clear hV
        go_enter Try.func9, Try.ntmps9
        go_wp2_with fail
        refine (king_one _).mono ?_
        rintro e w4 ⟨rfl, hb4⟩
        go_wp2_with fail
        go_ret
        exact ⟨rfl, hb4⟩
    · go_enter Try.func9, Try.ntmps9
      go_wp2_with fail
      refine (king_one _).mono ?_
      rintro e w4 ⟨rfl, hb4⟩
      go_wp2_with fail
      go_ret
      exact ⟨rfl, hb4⟩
  · go_enter Try.func9, Try.ntmps9
    go_wp2_with fail
    refine (king_one _).mono ?_
    rintro e w4 ⟨rfl, hb4⟩
    go_wp2_with fail
    go_ret
    exact ⟨rfl, hb4⟩

set_option maxRecDepth 100000 in
open Go.WideShapes Go.ChangeShapes in
theorem kingAlone_law {H : Type} (enc : TypeId × Value → H) (W : World) {v0 v1 : Value} {d0 d1 : DataW H} {p0 p1 : List MemPlace} {base : Nat}
    (h0 : DataW.Trod enc Try.prog W 0 (fun _ => true) true 3 v0 d0 p0) (k0 : Value.okWide Try.prog W .any base 3 v0)
    (h1 : DataW.Trod enc Try.prog W 0 (fun _ => true) true 3 v1 d1 p1) (k1 : Value.okWide Try.prog W .any base 3 v1)
    (_hsz : (DataW.weightsEach Try.prog [3, 3] [d0, d1]).all (· ≤ reachBytes) = true) :
    Calls Try.prog 9 #[v0, v1] W fun e w' => e = .returned (.bool true) ∧ Below W.heap.size W w' := by
  obtain ⟨n, rfl, _, _, _⟩ := open_int Try.underlying3 k0 h0
  obtain ⟨V, rfl, _, _, _⟩ := open_int Try.underlying3 k1 h1
  exact king_alone_any n V W

end Go.Proofs.Ytgiackgdceanhaa
