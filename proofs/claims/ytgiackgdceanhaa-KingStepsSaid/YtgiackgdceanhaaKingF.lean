/- The walk of the king's law: all rounds of a table ('play'). -/
import Derived.Test.YtgiackgdceanhaaKingE
namespace Go.Proofs.Ytgiackgdceanhaa
set_option linter.unusedVariables false
set_option linter.unusedSimpArgs false
open Go.RowKit

theorem elem_int : ElemOK Try.prog 22 3 (.int .i64 0) 1 8 := ⟨Try.underlying22, by kernel_rfl, rfl, by decide⟩

/-- A slice of the table's nodes, at one block. -/
structure NRow (w : World) (g : Nat) (bs : List Nat) : Prop where
  at_ : ∀ j, j < bs.length → w.cell? ⟨g, j, none⟩ = some (.pointer (some ⟨bs.getD j 0, 0, none⟩))
  ty : ∃ cs, w.heap[g]? = some (.cells cs 51 (0, 0))

theorem NRow.chg {S : List Nat} {w w' : World} {g : Nat} {bs : List Nat} (h : NRow w g bs) (hc : Chg S w w') (hs : g ∉ S) : NRow w' g bs :=
  ⟨fun j hj => hc.cell (h.at_ j hj) hs, by obtain ⟨cs, e⟩ := h.ty; exact ⟨cs, hc.has e hs⟩⟩

theorem NRow.of_own {w : World} {base : Nat} {g n cap : Nat} {bs : List Nat} (h : w.ownsRow base 51 1 (.slice (some ⟨g, 0, none⟩) n cap) n (ptrs bs)) : NRow w g bs := by
  refine ⟨fun j hj => ?_, ?_⟩
  · have := h.cells (g := g) rfl j (.pointer (some ⟨bs.getD j 0, 0, none⟩)) (by simp [ptrs, hj])
    rwa [addr_add0] at this
  · rcases h.2 with ⟨h1, _⟩ | ⟨g', cap', cur, hv, _, hg, _⟩
    · cases h1
    · injection hv with hv; injection hv with hv; injection hv with hv; subst hv; exact ⟨_, hg⟩

def upd (ks : Nat → KS) (i : Nat) (x : KS) : Nat → KS := fun m => if m = i then x else ks m
def updr (rr : Nat → Int) (i : Nat) (x : Int) : Nat → Int := fun m => if m = i then x else rr m

theorem Nodes.hear {w w' : World} {n f : Nat} {bs : List Nat} {ks : Nat → KS} {rr : Nat → Int} {i : Nat} (h : Nodes w n f bs ks rr) (hi : i < bs.length) {x : KS} {r : Int}
    (hK : KN w' (bs.getD i 0) n f ((i : Int) + 1) x.v r x.bk) (hc : Chg [bs.getD i 0] w w') : Nodes w' n f bs (upd ks i x) (updr rr i r) := by
  refine ⟨h.len, fun m hm => ?_, h.nodup⟩
  by_cases e : m = i
  · subst e; simpa [upd, updr] using hK
  · have hne : bs.getD m 0 ∉ [bs.getD i 0] := by
      simp [hm, hi]
      intro he
      exact e ((List.getElem_inj h.nodup).1 he)
    have := (h.at_ m hm).chg hc hne
    simpa [upd, updr, e] using this

theorem hearV_cases (n f v r : Int) (bk : Bool) (zs : List Int) (hv : v = 0 ∨ v = 1 ∨ v = 2) : (hearV n f v r bk zs).1 = 0 ∨ (hearV n f v r bk zs).1 = 1 ∨ (hearV n f v r bk zs).1 = 2 := by
  unfold hearV
  split
  · simp only [exV]; split
    · simp
    · split <;> simp
  · split
    · exact seV_cases _ _ _ hv
    · simp only [crV]; split
      · exact hv
      · split <;> simp

def sentL (ks : Nat → KS) (j : Nat) : List Int := (List.range j).map fun i => (ks i).v
theorem sentL_succ (ks : Nat → KS) (j : Nat) : sentL ks (j+1) = sentL ks j ++ [(ks j).v] := by simp [sentL, List.range_succ]
theorem sentL_get (ks : Nat → KS) (n j : Nat) (h : j < n) : (sentL ks n).getD j 0 = (ks j).v := by simp [sentL, h]

theorem king_hear_ok' (b : Nat) (n f s v r : Int) (bk : Bool) (a : Option Addr) (len cap : Nat) (zs : List Int) (w : World) (hlen : zs.length = len) (hK : KN w b n f s v r bk) (hf : 0 ≤ f ∧ f ≤ 100) (hr : r ≠ 3 * (f + 1))
    (hv : v = 0 ∨ v = 1 ∨ v = 2) (hr0 : 0 ≤ r) (hr3 : r < 3 * (f + 1)) (hfn : f < n) (hn : n ≤ 100)
    (hl : (len : Int) = n) (hc : ReadsI w a zs) (hcb : ∀ c o, a = some ⟨c, o, none⟩ → c ≠ b) :
    Calls Try.prog 25 #[.pointer (some ⟨b, 0, none⟩), .slice a len cap] w fun e w' => e = .returned (.int .i64 0) ∧
      KN w' b n f s (hearV n f v r bk zs).1 (r + 1) (hearV n f v r bk zs).2 ∧ Chg [b] w w' := by
  subst hlen
  exact king_hear_ok b n f s v r bk a cap zs w hK hf hr hv hr0 hr3 hfn hn hl hc hcb

theorem Nodes.congr {w : World} {n f : Nat} {bs : List Nat} {ks ks' : Nat → KS} {rr rr' : Nat → Int} (h : Nodes w n f bs ks rr) (hk : ∀ i, i < bs.length → ks' i = ks i) (hr : ∀ i, i < bs.length → rr' i = rr i) : Nodes w n f bs ks' rr' :=
  ⟨h.len, fun i hi => by rw [hk i hi, hr i hi]; exact h.at_ i hi, h.nodup⟩

theorem told_snoc {told : List Int} {j : Nat} {F : Nat → Bool} {V : Nat → Int} {x : Int} (hl : told.length = j) (h : ∀ m, m < j → F m = false → told.getD m 0 = V m) (hx : F j = false → x = V j) :
    ∀ m, m < j + 1 → F m = false → (told ++ [x]).getD m 0 = V m := by
  intro m hm hF
  by_cases e : m = j
  · subst e; rw [← hx hF]; simp [List.getD, ← hl]
  · rw [← h m (by omega) hF]
    have : m < told.length := by omega
    simp [List.getD, List.getElem?_append_left this]

set_option maxRecDepth 100000 in
set_option maxHeartbeats 4000000 in
theorem law_play (n f : Nat) (hn : 1 ≤ n ∧ n ≤ 10) (hf : 3 * f < n) (g cap : Nat) (bs : List Nat) (ks0 : Nat → KS) (set : Int) (A : Option Addr) (c : Nat) (zs : List Int) (w : World) (hm : zs.length ≤ 4000) (hz : ReadsI w A zs)
    (hA : 0 < zs.length → ∀ b off, A = some ⟨b, off, none⟩ → b ∉ bs) (hl : bs.length = n) (hR : NRow w g bs) (hN : Nodes w n f bs ks0 (fun _ => 0)) (hv : ∀ i, (ks0 i).v = 0 ∨ (ks0 i).v = 1 ∨ (ks0 i).v = 2) :
    Calls Try.prog 31 #[.slice (some ⟨g, 0, none⟩) n cap, .int .i64 f, .agg #[.int .i64 set, .slice A zs.length c]] w fun e w' => e = .returned (.bool true) ∧
      ∃ sq : Nat → Nat → KS, sq 0 = ks0 ∧ (∀ r : Nat, r < 3 * (f + 1) → KStep n f (failB set f) r (sq r) (sq (r+1))) ∧ Nodes w' n f bs (sq (3 * (f+1))) (fun _ => 3 * ((f : Int) + 1)) ∧ Chg bs w w' := by
  have HL := Lib.hid hl; clear hl
  have HV := Lib.hid hv; clear hv
  have HA := Lib.hid hA; clear hA
  have hgb : g ∉ bs := by
    intro hm
    obtain ⟨cs, e⟩ := hR.ty
    obtain ⟨cs', e'⟩ := hN.has hm
    rw [e] at e'
    simp at e'
  go_enter Try.func31, Try.ntmps31
  go_wp2_with fail
  go_loopw [7, 8] (fun at_ r wr => ∃ (k a : Nat) (sq : Nat → Nat → KS), k ≤ 3 * (f + 1) ∧ r = .int .i64 k ∧ at_ = .int .i64 a ∧ a ≤ k * 100 ∧ sq 0 = ks0 ∧
      (∀ r : Nat, r < k → KStep n f (failB set f) r (sq r) (sq (r+1))) ∧ Nodes wr n f bs (sq k) (fun _ => k) ∧ (∀ i, (sq k i).v = 0 ∨ (sq k i).v = 1 ∨ (sq k i).v = 2) ∧ Chg bs w wr ∧
      wr.heap[w.heap.size]? = some (.cells #[.int .i64 set, .slice A zs.length c] 66)) (fun _ r _ => 3 * (f + 1) - (intOf r).toNat)
  case atStart => exact ⟨0, 0, fun _ => ks0, by omega, rfl, rfl, by omega, rfl, by simp, hN.chg ((Chg.refl [] _).alloc _) (by simp), HV.out, (Chg.refl _ _).alloc _, has_alloc_new _ _⟩
  case round =>
    obtain ⟨k, a, sq, hk, rfl, rfl, ha, hsq0, hst, hNk, hvk, hC, hbox⟩ := hrel
    have HSQ0 := Lib.hid hsq0; have HST := Lib.hid hst; have HVK := Lib.hid hvk
    clear hsq0 hst hvk
    have hsz := hC.size
    have HC := Lib.hid hC
    clear hN
    by_cases hlt : k < 3 * (f + 1)
    · have t1 : decide ((k : Int) < 3 * ((f : Int) + 1)) = true := by simp; omega
      go_wp2_with fail
      go_loopw [9, 26] (fun v i w2 => ∃ j : Nat, j ≤ n ∧ i = .int .i64 j ∧ w2.ownsRow wr.heap.size 3 1 v j (ints (sentL (sq k) j)) ∧ Chg [] wr w2) (fun _ i _ => n - (intOf i).toNat)
      case atStart => exact ⟨0, by omega, rfl, World.ownsRow_nil _ _ _ _, Chg.refl _ _⟩
      case round =>
        rename World => w2
        obtain ⟨j, hj, rfl, hown, hC2⟩ := hrel
        by_cases hjn : j < n
        · have hK := (hNk.at_ j (by rw [HL.out]; exact hjn)).chg hC2 (by simp)
          have hRj := ((hR.chg HC.out hgb).chg hC2 (by simp)).at_ j (by rw [HL.out]; exact hjn)
          have hss := sentL_succ (sq k) j
          generalize bs.getD j 0 = b at *
          have HSS := Lib.hid hss
          clear hss
          have HN2 := Lib.hid hNk
          clear hNk
          have hsz2 := hC2.size
          have hkf : ¬ ((k : Int) = 3 * ((f : Int) + 1)) := by omega
          go_wp2_with fail
          refine (king_send b n f _ _ k _ _ hK (by omega) (by omega)).mono ?_
          rw [if_neg hkf]
          rintro e w3 ⟨rfl, q, rfl⟩
          go_wp2_with (at_builtin; go_loud (refine wpList_push rfl (.tmp 30) (.tmp 33) 22 rfl elem_int wr.heap.size rfl (own_drewN hown q |>.alloc _) w2.heap.size _ rfl rfl (has_alloc_at (by first | rfl | (simp; done))) (by simp [Value.oneCell']) (by omega) (by omega) (by simp; omega) ?_); intro v' w1 hown1 hg1 hat1)
          refine ⟨⟨j+1, by omega, by go_num, ?_, ?_⟩, by simp [intOf]; omega⟩
          · rw [HSS.out]; simpa [ints] using hown1
          · refine ((hC2.drewN q).alloc _).grown hg1 ?_
            intro b' hb'
            exact .inr (hown.lt b' hb').1
        · obtain rfl : n = j := by omega
          obtain ⟨g2, cap2, cur2, rfl, hRS, hg2, hg2l, hcur2, _⟩ := own_ints hown (by omega)
          have hC2' := HC.out.trans_new hC2 (by simp)
          have hN2 := hNk.chg hC2 (by simp)
          have hbox2 := hC2.has hbox (by simp)
          have hR2 := (hR.chg HC.out hgb).chg hC2 (by simp)
          have hg2b : g2 ∉ bs := by
            intro hm
            obtain ⟨cs', e'⟩ := hN2.has hm
            rw [hcur2] at e'
            simp at e'
          have hwb : w.heap.size ∉ bs := by
            intro hm
            obtain ⟨cs', e'⟩ := hN2.has hm
            rw [hbox2] at e'
            simp at e'
          clear hown hC2 hNk hbox hR
          have HRS := Lib.hid hRS; have HCur := Lib.hid hcur2
          clear hRS hcur2
          go_wp2_with fail
          go_loopw [7, 38] (fun at_ ix w3 => ∃ (i a3 : Nat) (ks3 : Nat → KS), i ≤ n ∧ ix = .int .i64 i ∧ at_ = .int .i64 a3 ∧ a3 ≤ k * 100 + i * 10 ∧
             Nodes w3 n f bs ks3 (fun m => if m < i then (k : Int) + 1 else k) ∧ (∀ m, ¬ m < i → ks3 m = sq k m) ∧
             (∀ m, m < i → ∃ told : List Int, told.length = n ∧ (∀ j', j' < n → failB set f j' = false → told.getD j' 0 = (sq k j').v) ∧
                ks3 m = ⟨(hearV n f (sq k m).v k (sq k m).bk told).1, (hearV n f (sq k m).v k (sq k m).bk told).2⟩) ∧ Chg bs w2 w3) (fun _ ix _ => n - (intOf ix).toNat)
          case atStart => exact ⟨0, a, sq k, by omega, rfl, rfl, by omega, by simpa using hN2, fun _ _ => rfl, by simp, Chg.refl _ _⟩
          case round =>
            rename World => w3
            obtain ⟨i, a3, ks3, hi, rfl, rfl, ha3, hN3, hkeep, htold, hC3⟩ := hrel
            have HKeep := Lib.hid hkeep; have HTold := Lib.hid htold; clear hkeep htold
            have hbox3 := hC3.has hbox2 hwb
            have hR3 := hR2.chg hC3 hgb
            have HCur3 := Lib.hid (hC3.has HCur.out hg2b)
            have hsz3 := hC3.size
            by_cases hin : i < n
            · have hRi := hR3.at_ i (by rw [HL.out]; exact hin)
              have hK := hN3.at_ i (by rw [HL.out]; exact hin)
              have hbi : bs.getD i 0 ∈ bs := by simp [HL.out, hin]
              have HBI := Lib.hid hbi; clear hbi
              simp only [Nat.lt_irrefl, if_false] at hK
              generalize hb : bs.getD i 0 = b at *
              have HB := Lib.hid hb; clear hb
              have HN3 := Lib.hid hN3; clear hN3
              have hR3' := Lib.hid hR3; clear hR3
              go_wp2_with fail
              go_loopw [7, 14, 44] (fun at_ v jx w4 => ∃ (j a4 : Nat) (told : List Int), j ≤ n ∧ jx = .int .i64 j ∧ at_ = .int .i64 a4 ∧ a4 ≤ k * 100 + i * 10 + j ∧ told.length = j ∧
                 w4.ownsRow w3.heap.size 3 1 v j (ints told) ∧ (∀ m, m < j → failB set f m = false → told.getD m 0 = (sq k m).v) ∧ Chg [] w3 w4) (fun _ _ jx _ => n - (intOf jx).toNat)
              case atStart => exact ⟨0, a3, [], by omega, rfl, rfl, by omega, rfl, World.ownsRow_nil _ _ _ _, by simp, Chg.refl _ _⟩
              case round =>
                rename World => w4
                obtain ⟨j, a4, told, hj, rfl, rfl, ha4, htl, hown4, hto, hC4⟩ := hrel
                have HTL := Lib.hid htl; have HTo := Lib.hid hto; clear htl hto
                have hbox4 := hC4.has hbox3 (by simp)
                have c0 : w4.cell? ⟨w.heap.size, 0, none⟩ = some (.int .i64 set) := cell_of_has hbox4 0
                have c1 : w4.cell? ⟨w.heap.size, 1, none⟩ = some (.slice A zs.length c) := cell_of_has hbox4 1
                have hsz4 := hC4.size
                by_cases hjn' : j < n
                · have hsent : w4.cell? ⟨g2, j, none⟩ = some (.int .i64 (sq k j).v) := by
                    obtain ⟨gb, go, he, _, hcc⟩ := HRS.out (by simp [sentL]; omega)
                    have hx := hcc j (by simpa [sentL] using hjn')
                    rw [sentL_get _ _ _ hjn'] at hx
                    simp at he
                    obtain ⟨rfl, rfl⟩ := he
                    have hy := hC4.cell (hC3.cell hx hg2b) (by simp)
                    simpa using hy
                  have hmod : ((a4 : Int).tmod (zs.length : Int)) = ((a4 % zs.length : Nat) : Int) := by
                    rw [Int.tmod_eq_emod_of_nonneg (by omega)]; omega
                  cases hF : failB set f j
                  · go_wp2_with fail
                    refine (law_fails set f j (by omega) _).mono ?_
                    rw [hF]
                    rintro e w5 ⟨rfl, hw5⟩
                    obtain rfl := hw5.symm
                    clear hw5
                    go_wp2_with (at_builtin; go_loud (refine wpList_push rfl (.tmp 73) (.tmp 75) 22 rfl elem_int w3.heap.size rfl ((hown4).alloc _) w4.heap.size _ rfl rfl (has_alloc_at (by first | rfl | (simp; done))) (by simp [Value.oneCell']) (by omega) (by omega) (by simp; omega) ?_); intro v' w1 hown1 hg1 hat1)
                    refine ⟨⟨j+1, a4, told ++ [(sq k j).v], by omega, by go_num, by first | rfl | go_num, by omega, by simp [HTL.out], by simpa [ints] using hown1, told_snoc HTL.out HTo.out (fun h => by first | rfl | (rw [hF] at h; cases h)), ?_⟩, by simp [intOf]; omega⟩
                    refine ((hC4).alloc _).grown hg1 ?_
                    intro b' hb'
                    exact .inr (hown4.lt b' hb').1
                  · by_cases hz0 : 0 < zs.length
                    · obtain ⟨wb, wo, hAe, hwl, hwc⟩ := hz hz0
                      have hlt4 : a4 % zs.length < zs.length := Nat.mod_lt _ hz0
                      have hword := hC4.cell ((hC3.cell (hC2'.cell (hwc (a4 % zs.length) hlt4) (HA.out hz0 wb wo hAe)) (HA.out hz0 wb wo hAe))) (by simp)
                      subst hAe
                      generalize zs.getD (a4 % zs.length) 0 = word at *
                      have HM := Lib.hid hmod
                      clear hwc
                      go_wp2_with fail
                      refine (law_fails set f j (by omega) _).mono ?_
                      rw [hF]
                      rintro e w5 ⟨rfl, hw5⟩
                      obtain rfl := hw5.symm
                      clear hw5
                      go_wp2_with fail
                      go_quiet (fail)
                      go_wp2_with (at_builtin; go_loud (refine wpList_push rfl (.tmp 73) (.tmp 75) 22 rfl elem_int w3.heap.size rfl ((own_drewN hown4 nq).alloc _) w4.heap.size _ rfl rfl (has_alloc_at (by first | rfl | (simp; done))) (by simp [Value.oneCell']) (by omega) (by omega) (by simp; omega) ?_); intro v' w1 hown1 hg1 hat1)
                      refine ⟨⟨j+1, a4+1, told ++ [word], by omega, by go_num, by first | rfl | go_num, by omega, by simp [HTL.out], by simpa [ints] using hown1, told_snoc HTL.out HTo.out (fun h => by rw [hF] at h; cases h), ?_⟩, by simp [intOf]; omega⟩
                      refine ((hC4.drewN nq).alloc _).grown hg1 ?_
                      intro b' hb'
                      exact .inr (hown4.lt b' hb').1
                    · have hz1 : zs.length = 0 := by omega
                      have hz2 : decide ((0 : Int) < zs.length) = false := decide_eq_false (by omega)
                      have hz3 : decide (0 < zs.length) = false := decide_eq_false (by omega)
                      have HZ1 := Lib.hid hz1; clear hz1
                      go_wp2_with fail
                      refine (law_fails set f j (by omega) _).mono ?_
                      rw [hF]
                      rintro e w5 ⟨rfl, hw5⟩
                      obtain rfl := hw5.symm
                      clear hw5
                      go_wp2_with (at_builtin; go_loud (refine wpList_push rfl (.tmp 73) (.tmp 75) 22 rfl elem_int w3.heap.size rfl ((hown4).alloc _) w4.heap.size _ rfl rfl (has_alloc_at (by first | rfl | (simp; done))) (by simp [Value.oneCell']) (by omega) (by omega) (by simp; omega) ?_); intro v' w1 hown1 hg1 hat1)
                      refine ⟨⟨j+1, a4, told ++ [(sq k j).v], by omega, by go_num, by first | rfl | go_num, by omega, by simp [HTL.out], by simpa [ints] using hown1, told_snoc HTL.out HTo.out (fun h => by first | rfl | (rw [hF] at h; cases h)), ?_⟩, by simp [intOf]; omega⟩
                      refine ((hC4).alloc _).grown hg1 ?_
                      intro b' hb'
                      exact .inr (hown4.lt b' hb').1
                · obtain rfl : n = j := by omega
                  obtain ⟨g4, cap4, cur4, rfl, hR4, hg4, hg4l, hcur4, _⟩ := own_ints hown4 (by omega)
                  have hki := HKeep.out i (by omega)
                  have hvi := HVK.out i
                  rw [hki] at hK
                  have hK4 := hK.chg hC4 (by simp)
                  have hKlt := hK.lt
                  clear hown4 hcur4
                  have HR4 := Lib.hid hR4; clear hR4
                  have HKI := Lib.hid hki; clear hki
                  clear hK
                  go_wp2_with fail
                  refine (king_hear_ok' b n f ((i : Int) + 1) _ k _ (some ⟨g4, 0, none⟩) n cap4 told w4 HTL.out hK4 (by omega) (by omega) hvi (by omega) (by omega) (by omega) (by omega) rfl HR4.out (by intro c o hco; simp at hco; omega)).mono ?_
                  rintro e w5 ⟨rfl, hK5, hC5⟩
                  go_wp2_with fail
                  refine ⟨⟨i+1, a4, upd ks3 i ⟨(hearV n f (sq k i).v k (sq k i).bk told).1, (hearV n f (sq k i).v k (sq k i).bk told).2⟩, by omega, by go_num, rfl, by omega, ?_, ?_, ?_, ?_⟩, by simp [intOf]; omega⟩
                  · have hN4 := HN3.out.chg hC4 (by simp)
                    have hx := hN4.hear (i := i) (x := ⟨(hearV n f (sq k i).v k (sq k i).bk told).1, (hearV n f (sq k i).v k (sq k i).bk told).2⟩) (r := (k : Int) + 1) (by rw [HL.out]; exact hin) (by rw [HB.out]; exact hK5) (by rw [HB.out]; exact hC5)
                    refine hx.congr (fun _ _ => rfl) ?_
                    intro m _
                    unfold updr
                    by_cases e : m = i
                    · subst e; simp
                    · by_cases e2 : m < i
                      · dsimp only; rw [if_pos (by omega), if_neg e, if_pos e2]
                      · dsimp only; rw [if_neg (by omega), if_neg e, if_neg e2]
                  · intro m hm
                    unfold upd
                    rw [if_neg (by omega)]
                    exact HKeep.out m (by omega)
                  · intro m hm
                    by_cases e : m = i
                    · subst e
                      exact ⟨told, HTL.out, HTo.out, by simp [upd]⟩
                    · obtain ⟨t, p1, p2, p3⟩ := HTold.out m (by omega)
                      exact ⟨t, p1, p2, by simp [upd, e]; exact p3⟩
                  · exact (hC3.trans_new hC4 (by simp)).trans_new hC5 (by intro x hx; simp at hx; subst hx; exact .inl HBI.out)
            · obtain rfl : n = i := by omega
              go_wp2_with fail
              refine ⟨⟨k+1, a3, fun r => if r = k + 1 then ks3 else sq r, by omega, by go_num, rfl, by omega, ?_, ?_, ?_, ?_, ?_, ?_⟩, by simp [intOf]; omega⟩
              · dsimp only; rw [if_neg (by omega)]; exact HSQ0.out
              · intro r hr
                by_cases e : r = k
                · subst e
                  dsimp only; rw [if_neg (by omega), if_pos rfl]
                  intro m hm
                  exact HTold.out m hm
                · dsimp only; rw [if_neg (by omega), if_neg (by omega)]
                  exact HST.out r (by omega)
              · dsimp only; rw [if_pos rfl]
                refine hN3.congr (fun _ _ => rfl) ?_
                intro m hm
                rw [HL.out] at hm
                rw [if_pos hm]; omega
              · intro m
                dsimp only; rw [if_pos rfl]
                by_cases e : m < n
                · obtain ⟨t, _, _, p3⟩ := HTold.out m e
                  rw [p3]
                  exact hearV_cases _ _ _ _ _ _ (HVK.out m)
                · rw [HKeep.out m e]; exact HVK.out m
              · exact hC2'.trans_new hC3 (fun x hx => .inl hx)
              · exact hbox3
    · obtain rfl : k = 3 * (f + 1) := by omega
      have t1 : decide (((3 * (f + 1) : Nat) : Int) < 3 * ((f : Int) + 1)) = false := decide_eq_false (by omega)
      go_wp2_with fail
      go_ret
      refine ⟨rfl, sq, HSQ0.out, HST.out, hNk.congr (fun _ _ => rfl) (fun _ _ => by omega), HC.out⟩

end Go.Proofs.Ytgiackgdceanhaa
