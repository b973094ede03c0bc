/- KingKeeps: the walk. -/
import Derived.Test.YtgiackgdceanhaaKingH
namespace Go.Proofs.Ytgiackgdceanhaa
set_option linter.unusedVariables false
set_option linter.unusedSimpArgs false
open Go.RowKit

def keepL (F : Nat → Bool) (V : Int) (i : Nat) : List Int := (List.range i).map fun j => if F j = true then 1 - V else V
theorem keepL_succ (F : Nat → Bool) (V : Int) (i : Nat) : keepL F V (i+1) = keepL F V i ++ [if F i = true then 1 - V else V] := by simp [keepL, List.range_succ]
theorem keepL_len (F : Nat → Bool) (V : Int) (i : Nat) : (keepL F V i).length = i := by simp [keepL]
theorem keepL_val (F : Nat → Bool) (V : Int) (hV : V = 0 ∨ V = 1) (n i : Nat) (hi : i < n) (hF : F i = false) : valOf (keepL F V n) i = V := by
  unfold valOf keepL
  simp [hi, hF]
  rcases hV with rfl | rfl <;> simp

theorem law_table' (n f : Nat) (hn : 1 ≤ n ∧ n ≤ 10) (hf : 3 * f < n) (A : Option Addr) (len cap : Nat) (zs : List Int) (w : World) (hl : zs.length = len) (hm : len ≤ 9223372036854775807) (hc : ReadsI w A zs) :
    Calls Try.prog 30 #[.int .i64 n, .int .i64 f, .slice A len cap] w fun e w' => ∃ v bs, e = .returned v ∧
      w'.ownsRow w.heap.size 51 1 v n (ptrs bs) ∧ bs.length = n ∧ Nodes w' n f bs (fun i => ⟨valOf zs i, false⟩) (fun _ => 0) ∧ (∀ b ∈ bs, w.heap.size ≤ b) ∧ Chg [] w w' := by
  subst hl
  exact law_table n f hn hf A cap zs w hm hc

set_option maxRecDepth 100000 in
set_option maxHeartbeats 4000000 in
theorem king_keeps_any (n f s V set : Int) (B : Option Addr) (bc : Nat) (ws : List Int) (w : World) (hm2 : ws.length ≤ 9223372036854775807) (hB : ReadsI w B ws) :
    Calls Try.prog 7 #[.agg #[.int .i64 n, .int .i64 f, .int .i64 s, .int .i64 V], .agg #[.int .i64 set, .slice B ws.length bc]] w fun e w' => e = .returned (.bool true) ∧ Below w.heap.size w w' := by
  by_cases hT : Tb n f
  · by_cases hV : V = 0 ∨ V = 1
    · by_cases hw : ws.length ≤ 4000
      · obtain ⟨N, rfl⟩ : ∃ N : Nat, n = N := ⟨n.toNat, by unfold Tb at hT; omega⟩
        obtain ⟨F, rfl⟩ : ∃ F : Nat, f = F := ⟨f.toNat, by unfold Tb at hT; omega⟩
        have hTT := hT
        obtain ⟨t1, t2, t3, t4, t5⟩ := hTT
        have hV1 : ((V != 0) && (V != 1)) = false := by rcases hV with rfl | rfl <;> rfl
        have HVV := Lib.hid hV
        have hVb : 0 ≤ V ∧ V ≤ 1 := by omega
        rcases hV with hV0 | hV0
        all_goals
          have v0 : (V != 0) = (V == 1) := by rw [hV0]; rfl
          clear hV1 v0
          have HV0 := Lib.hid hV0
          first
          | (have z0 : (V != 0) = false := by rw [hV0]; rfl)
          | (have z0 : (V != 0) = true := by rw [hV0]; rfl
             have z1 : (V != 1) = false := by rw [hV0]; rfl)
          clear hV0
          go_enter Try.func7, Try.ntmps7
          go_wp2_with fail
          refine (ref_table_yes _ _ _ hT).mono ?_
          rintro e w1 ⟨rfl, hw1⟩
          obtain rfl := hw1.symm
          clear hw1
          go_wp2_with fail
          generalize hW : (w.alloc (.cells #[.int .i64 N, .int .i64 F, .int .i64 s, .int .i64 V] 49)).alloc (.cells #[.int .i64 set, .slice B ws.length bc] 66) = W0
          have hC0 : Chg [] w W0 := by rw [← hW]; exact ((Chg.refl _ _).alloc _).alloc _
          have hsA : W0.heap[w.heap.size]? = some (.cells #[.int .i64 N, .int .i64 F, .int .i64 s, .int .i64 V] 49) := by rw [← hW]; exact has_alloc (has_alloc_new _ _)
          have hsB : W0.heap[w.heap.size + 1]? = some (.cells #[.int .i64 set, .slice B ws.length bc] 66) := by rw [← hW]; exact has_alloc_at (by simp)
          have hz0 : W0.heap.size = w.heap.size + 2 := by rw [← hW]; simp
          have HZ0 := Lib.hid hz0
          clear hW hz0
          go_loopw [5, 6] (fun v ix w3 => ∃ i : Nat, i ≤ N ∧ ix = .int .i64 i ∧ w3.ownsRow W0.heap.size 3 1 v i (ints (keepL (failB set F) V i)) ∧ Chg [] W0 w3) (fun _ ix _ => N - (intOf ix).toNat)
          case atStart => exact ⟨0, by omega, rfl, World.ownsRow_nil _ _ _ _, Chg.refl _ _⟩
          case round =>
            rename World => w3
            obtain ⟨i, hi, rfl, hown, hC3⟩ := hrel
            have hsA3 := hC3.has hsA (by simp)
            have hsB3 := hC3.has hsB (by simp)
            have s0 : w3.cell? ⟨w.heap.size, 0, none⟩ = some (.int .i64 N) := cell_of_has hsA3 0
            have s1 : w3.cell? ⟨w.heap.size, 1, none⟩ = some (.int .i64 F) := cell_of_has hsA3 1
            have s3 : w3.cell? ⟨w.heap.size, 3, none⟩ = some (.int .i64 V) := cell_of_has hsA3 3
            have b0 : w3.cell? ⟨w.heap.size + 1, 0, none⟩ = some (.int .i64 set) := cell_of_has hsB3 0
            have b1 : w3.cell? ⟨w.heap.size + 1, 1, none⟩ = some (.slice B ws.length bc) := cell_of_has hsB3 1
            have hsz3 := hC3.size
            by_cases hin : i < N
            · have HK := Lib.hid (keepL_succ (failB set F) V i)
              clear hsA3 hsB3
              cases hF : failB set F i
              · go_wp2_with fail
                refine (law_fails set F i (by omega) _).mono ?_
                rw [hF]
                rintro e w4 ⟨rfl, hw4⟩
                obtain rfl := hw4.symm
                clear hw4
                go_wp2_with (at_builtin; go_loud (refine wpList_push rfl (.tmp 53) (.tmp 56) 22 rfl elem_int W0.heap.size rfl (hown.alloc _) w3.heap.size _ rfl rfl (has_alloc_at (by first | rfl | (simp; done))) (by simp [Value.oneCell']) (by omega) (by omega) (by simp; omega) ?_); intro v' w1 hown1 hg1 hat1)
                refine ⟨⟨i+1, by omega, by go_num, ?_, ?_⟩, by simp [intOf]; omega⟩
                · rw [HK.out, hF]; simpa [ints] using hown1
                · exact (hC3.alloc _).grown hg1 (fun b' hb' => .inr (hown.lt b' hb').1)
              · go_wp2_with fail
                refine (law_fails set F i (by omega) _).mono ?_
                rw [hF]
                rintro e w4 ⟨rfl, hw4⟩
                obtain rfl := hw4.symm
                clear hw4
                go_wp2_with (at_builtin; go_loud (refine wpList_push rfl (.tmp 47) (.tmp 51) 22 rfl elem_int W0.heap.size rfl (hown.alloc _) w3.heap.size _ rfl rfl (has_alloc_at (by first | rfl | (simp; done))) (by simp [Value.oneCell']) (by omega) (by omega) (by simp; omega) ?_); intro v' w1 hown1 hg1 hat1)
                refine ⟨⟨i+1, by omega, by go_num, ?_, ?_⟩, by simp [intOf]; omega⟩
                · rw [HK.out, hF]; simpa [ints] using hown1
                · exact (hC3.alloc _).grown hg1 (fun b' hb' => .inr (hown.lt b' hb').1)
            · obtain rfl : N = i := by omega
              obtain ⟨gv, capv, curv, rfl, hRv, hgv, hgvl, _, hlen⟩ := own_ints hown (by omega)
              clear hown
              have hB3 := (hB.chg hC0 (by simp)).chg hC3 (by simp)
              go_wp2_with fail
              refine (law_table' N F (by omega) (by omega) (some ⟨gv, 0, none⟩) N capv (keepL (failB set F) V N) _ (keepL_len _ _ _) (by omega) hRv).mono ?_
              rintro e w1 ⟨tv, bs, rfl, hown, hbl, hNd, hbb, hC1⟩
              have hC4 := hC3.trans hC1
              have hsA := hC1.has hsA3 (by simp)
              have hsB := hC1.has hsB3 (by simp)
              have hB1 := hB3.chg hC1 (by simp)
              have s0 : w1.cell? ⟨w.heap.size, 0, none⟩ = some (.int .i64 N) := cell_of_has hsA 0
              have s1 : w1.cell? ⟨w.heap.size, 1, none⟩ = some (.int .i64 F) := cell_of_has hsA 1
              have s3 : w1.cell? ⟨w.heap.size, 3, none⟩ = some (.int .i64 V) := cell_of_has hsA 3
              have b0 : w1.cell? ⟨w.heap.size + 1, 0, none⟩ = some (.int .i64 set) := cell_of_has hsB 0
              have b1 : w1.cell? ⟨w.heap.size + 1, 1, none⟩ = some (.slice B ws.length bc) := cell_of_has hsB 1
              obtain ⟨g, cap2, rfl, hgR, hgl⟩ : ∃ g c2, tv = .slice (some ⟨g, 0, none⟩) N c2 ∧ NRow w1 g bs ∧ w3.heap.size ≤ g := by
                have hown2 := hown
                rcases hown2.2 with ⟨_, h0⟩ | ⟨g, c2, cur, rfl, hbg, _⟩
                · omega
                · exact ⟨g, c2, rfl, NRow.of_own hown, by simpa using hbg⟩
              have hgb : g ∉ bs := by
                intro hm
                obtain ⟨cs, e⟩ := hgR.ty
                obtain ⟨cs', e'⟩ := hNd.has hm
                rw [e] at e'
                simp at e'
              have hbb2 : ∀ b ∈ bs, w.heap.size + 2 ≤ b := by
                intro b hb
                have := hbb b hb
                have h0 := HZ0.out
                have h3 := hC3.size
                omega
              have hBb : 0 < ws.length → ∀ b off, B = some ⟨b, off, none⟩ → b ∉ bs := by
                intro h0 b off hb hm
                obtain ⟨b', off', hb', h1, _⟩ := hB h0
                rw [hb] at hb'
                injection hb' with hb'
                injection hb' with hb'
                subst hb'
                have := hbb2 b hm
                omega
              have hvals : ∀ i, i < N → failB set F i = false → valOf (keepL (failB set F) V N) i = V := fun i hi hF => keepL_val _ _ HVV.out _ _ hi hF
              have HBb := Lib.hid hBb; have Hbb := Lib.hid hbb2; have HBL := Lib.hid hbl; have HVal := Lib.hid hvals
              have hC5 := hC0.trans hC4
              clear hBb hbb2 hbb hbl hvals hown hsA hsB hsA3 hsB3 hB hB3 hC1 hC3 hC0 hC4
              have hNN := hNd.len
              go_wp2_with fail
              refine (law_play N F (by omega) (by omega) g cap2 bs _ set B bc ws w1 hw hB1 HBb.out HBL.out hgR hNd (fun i => valOf_bd _ i)).mono ?_
              rintro e w2 ⟨rfl, sq, hsq0, hst, hN2, hC2⟩
              have hFn := (failB_num set F (by omega) N).1
              have hall := keeps (n := N) (f := F) (F := failB set F) (sq := sq) (x := V) ⟨by omega, by omega, hFn⟩ HVV.out hst (by
                intro i hi hF
                rw [hsq0]
                exact HVal.out i hi hF)
              have hgR2 := hgR.chg hC2 hgb
              have hC2' : Chg [] w w2 := hC5.trans_new hC2 (by
                intro b hb
                have := Hbb.out b hb
                exact .inr (by omega))
              have hno : w.heap.size ∉ bs := by
                intro hb
                have := Hbb.out _ hb
                omega
              have hno1 : w.heap.size + 1 ∉ bs := by
                intro hb
                have := Hbb.out _ hb
                omega
              have s0' : w2.cell? ⟨w.heap.size, 0, none⟩ = some (.int .i64 N) := hC2.cell s0 hno
              have s1' : w2.cell? ⟨w.heap.size, 1, none⟩ = some (.int .i64 F) := hC2.cell s1 hno
              have s3' : w2.cell? ⟨w.heap.size, 3, none⟩ = some (.int .i64 V) := hC2.cell s3 hno
              have b0' : w2.cell? ⟨w.heap.size + 1, 0, none⟩ = some (.int .i64 set) := hC2.cell b0 hno1
              have HST := Lib.hid hst; have HSQ := Lib.hid hsq0; have HALL := Lib.hid hall; have HGR := Lib.hid hgR2
              clear hst hsq0 hall hgR hgR2 hNd hC2 hno hno1 hFn
              go_wp2_with fail
              go_loopw [79] (fun ix w4 => ∃ i : Nat, i ≤ N ∧ ix = .int .i64 i ∧ Chg [] w2 w4) (fun ix _ => N - (intOf ix).toNat)
              case atStart => exact ⟨0, by omega, rfl, Chg.refl _ _⟩
              case round =>
                rename World => w4
                obtain ⟨i, hi, rfl, hC4⟩ := hrel
                have s1'' := hC4.cell s1' (by simp)
                have s3'' := hC4.cell s3' (by simp)
                have b0'' := hC4.cell b0' (by simp)
                by_cases hin : i < N
                · have hptr := (HGR.out.chg hC4 (by simp)).at_ i (by rw [HBL.out]; exact hin)
                  have hK := (hN2.chg hC4 (by simp)).at_ i (by rw [HBL.out]; exact hin)
                  generalize bs.getD i 0 = b at *
                  cases hF : failB set F i
                  · have hxi := HALL.out i hin hF
                    rw [hxi] at hK
                    clear hxi
                    go_wp2_with fail
                    refine (king_done_yes b N F _ _ _ _ _ hK (by omega) (by omega) rfl).mono ?_
                    rintro e w5 ⟨rfl, q, rfl⟩
                    go_wp2_with fail
                    refine (law_fails set F i (by omega) _).mono ?_
                    rw [hF]
                    rintro e w5 ⟨rfl, hw4⟩
                    obtain rfl := hw4.symm
                    clear hw4
                    go_wp2_with fail
                    exact ⟨⟨i+1, by omega, by go_num, hC4.drewN q⟩, by simp [intOf]; omega⟩
                  · go_wp2_with fail
                    refine (king_done_yes b N F _ _ _ _ _ hK (by omega) (by omega) rfl).mono ?_
                    rintro e w5 ⟨rfl, q, rfl⟩
                    go_wp2_with fail
                    refine (law_fails set F i (by omega) _).mono ?_
                    rw [hF]
                    rintro e w5 ⟨rfl, hw4⟩
                    obtain rfl := hw4.symm
                    clear hw4
                    go_wp2_with fail
                    exact ⟨⟨i+1, by omega, by go_num, hC4.drewN q⟩, by simp [intOf]; omega⟩
                · obtain rfl : N = i := by omega
                  go_wp2_with fail
                  refine (king_one _).mono ?_
                  rintro e w5 ⟨rfl, hb5⟩
                  go_wp2_with fail
                  go_ret
                  exact ⟨rfl, ((hC2'.trans_new hC4 (by simp)).trans_new (Chg.of_below hb5 []) (by simp)).below⟩
      · have hw2 : decide ((4000 : Int) < ws.length) = true := decide_eq_true (by omega)
        rcases hV with hV0 | hV0
        all_goals
          have HV0 := Lib.hid hV0
          first
          | (have z0 : (V != 0) = false := by rw [hV0]; rfl)
          | (have z0 : (V != 0) = true := by rw [hV0]; rfl
             have z1 : (V != 1) = false := by rw [hV0]; rfl)
          clear hV0
          go_enter Try.func7, Try.ntmps7
          go_wp2_with fail
          refine (ref_table_yes _ _ _ hT).mono ?_
          rintro e w1 ⟨rfl, hw1⟩
          obtain rfl := hw1.symm
          clear hw1
          go_wp2_with fail
          refine (king_one _).mono ?_
          rintro e w4 ⟨rfl, hb4⟩
          go_wp2_with fail
          go_ret
          exact ⟨rfl, (((((Chg.refl [] _).alloc _).alloc _)).trans_new (Chg.of_below hb4 []) (by simp)).below⟩
    · have z0 : (V != 0) = true := by simp; omega
      have z1 : (V != 1) = true := by simp; omega
      have HV := Lib.hid hV; clear hV
      go_enter Try.func7, Try.ntmps7
      go_wp2_with fail
      refine (ref_table_yes _ _ _ hT).mono ?_
      rintro e w1 ⟨rfl, hw1⟩
      obtain rfl := hw1.symm
      clear hw1
      go_wp2_with fail
      refine (king_one _).mono ?_
      rintro e w4 ⟨rfl, hb4⟩
      go_wp2_with fail
      go_ret
      exact ⟨rfl, (((((Chg.refl [] _).alloc _).alloc _)).trans_new (Chg.of_below hb4 []) (by simp)).below⟩
  · go_enter Try.func7, Try.ntmps7
    go_wp2_with fail
    refine (ref_table_no _ _ _ hT).mono ?_
    rintro e w1 ⟨rfl, hw1⟩
    obtain rfl := hw1.symm
    clear hw1
    go_wp2_with fail
    refine (king_one _).mono ?_
    rintro e w4 ⟨rfl, hb4⟩
    go_wp2_with fail
    go_ret
    exact ⟨rfl, (((((Chg.refl [] _).alloc _).alloc _)).trans_new (Chg.of_below hb4 []) (by simp)).below⟩

set_option maxRecDepth 100000 in
open Go.WideShapes Go.ChangeShapes in
theorem kingKeeps_law {H : Type} (enc : TypeId × Value → H) (W : World) {v0 v1 : Value} {d0 d1 : DataW H} {p0 p1 : List MemPlace} {base : Nat}
    (h0 : DataW.Trod enc Try.prog W 0 (fun _ => true) true 49 v0 d0 p0) (k0 : Value.okWide Try.prog W .any base 49 v0)
    (h1 : DataW.Trod enc Try.prog W 0 (fun _ => true) true 66 v1 d1 p1) (k1 : Value.okWide Try.prog W .any base 66 v1)
    (_hsz : (DataW.weightsEach Try.prog [49, 66] [d0, d1]).all (· ≤ reachBytes) = true) :
    Calls Try.prog 7 #[v0, v1] W fun e w' => e = .returned (.bool true) ∧ Below W.heap.size W w' := by
  obtain ⟨n, f, s, x, rfl, _, _, _, _⟩ := open_seat enc W h0 k0
  obtain ⟨set, B, cb, ws, rfl, _, rB, hB, _⟩ := open_bad enc W h1 k1
  exact king_keeps_any n f s x set B cb ws W hB rB

end Go.Proofs.Ytgiackgdceanhaa
