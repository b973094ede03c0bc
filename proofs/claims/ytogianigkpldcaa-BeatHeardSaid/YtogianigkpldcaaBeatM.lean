/- BeatHeard: the walk of the law. -/
import Derived.Test.YtogianigkpldcaaBeatJ
namespace Go.Proofs.Ytogianigkpldcaa
set_option linter.unusedVariables false
set_option linter.unusedSimpArgs false
open Go.RowKit

/-- A timeout is 4, 8, 16, 32 or 64. -/
def Tm (t : Int) : Prop := t = 4 ∨ t = 8 ∨ t = 16 ∨ t = 32 ∨ t = 64

structure HI (wr W : World) (p q n m : Nat) (now wn : Int) (f : Nat → Pr) : Prop where
  hW : WT wr p q n m wn f
  hb : wn ≤ now
  hs : (f m).silent = false
  ht : ∀ i, Tm (f i).timeout
  hC : Chg [] W wr
  hpq : W.heap.size ≤ p ∧ W.heap.size ≤ q

theorem HI.heard {wr wr' W : World} {p q n m : Nat} {now wn now' : Int} {f : Nat → Pr} (h : HI wr W p q n m now wn f) {k : Nat} (hW : WT wr' p q n m now' (heardF f k now')) (hC : Chg [p, q] wr wr') : HI wr' W p q n m now' now' (heardF f k now') := by
  refine ⟨hW, Int.le_refl _, ?_, fun i => ?_, h.hC.trans_new hC (by have := h.hpq; simp; omega), h.hpq⟩
  · unfold heardF
    split
    · rfl
    · exact h.hs
  · unfold heardF
    have h1 := h.ht k; have h2 := h.ht i
    unfold Tm at h1 h2 ⊢
    split
    · simp only; split <;> omega
    · exact h2

theorem HI.check {wr wr' W : World} {p q n m : Nat} {now wn now' : Int} {f : Nat → Pr} (h : HI wr W p q n m now wn f) (hW : WT wr' p q n m now' (sil f (lates n m now' f))) (hC : Chg [p, q] wr wr') : HI wr' W p q n m now' now' (sil f (lates n m now' f)) := by
  refine ⟨hW, Int.le_refl _, ?_, fun i => ?_, h.hC.trans_new hC (by have := h.hpq; simp; omega), h.hpq⟩
  · unfold sil
    rw [if_neg]
    · exact h.hs
    · unfold lates
      rw [oth_mem]
      rintro ⟨i, hi, _, _, hne, _⟩
      exact hne hi.symm
  · unfold sil
    split
    · exact h.ht i
    · exact h.ht i

theorem HI.chg0 {wr wr' W : World} {p q n m : Nat} {now wn now' : Int} {f : Nat → Pr} (h : HI wr W p q n m now wn f) (hC : Chg [] wr wr') (hn : now ≤ now') : HI wr' W p q n m now' wn f :=
  ⟨h.hW.chg0 hC, Int.le_trans h.hb hn, h.hs, h.ht, h.hC.trans hC, h.hpq⟩

set_option maxRecDepth 100000 in
set_option maxHeartbeats 4000000 in
theorem heard_main (n m : Nat) (a : Option Addr) (cap : Nat) (zs : List St3) (W : World) (hR : ReadsT W a zs) (hz : zs.length ≤ 300) (hn : 1 ≤ n ∧ n ≤ 10) (hm : 1 ≤ m ∧ m ≤ n) :
    Calls Try.prog 4 #[.int .i64 n, .int .i64 m, .slice a zs.length cap] W fun e w' => e = .returned (.bool true) ∧ Below W.heap.size W w' := by
  have HR := Lib.hid hR; clear hR
  have hz' : (zs.length : Int) ≤ 300 := by omega
  go_enter Try.func4, Try.ntmps4
  go_wp2_with fail
  refine (new_ok n m 0 _ ⟨by omega, by omega, by omega, by omega, by decide, by decide⟩).mono ?_
  rintro e w1 ⟨p, q, rfl, hp, hq, hW, hC⟩
  have HF0 := Lib.hid (show HI w1 W p q n m 0 0 (newF 0) from ⟨hW, Int.le_refl _, rfl, fun i => Or.inl rfl, hC, ⟨hp, hq⟩⟩)
  clear hW hC hp hq
  go_wp2_with fail
  go_loopg [9, 49] zs.length (fun gk nw i wr => ∃ (k : Nat) (now wn : Int) (f : Nat → Pr), gk + k = zs.length ∧ i = .int .i64 k ∧ nw = .int .i64 now ∧ (0 ≤ now ∧ now ≤ k * 1000) ∧ HI wr W p q n m now wn f)
  case atStart => exact ⟨0, 0, 0, _, rfl, rfl, rfl, ⟨by omega, by omega⟩, HF0.out⟩
  case round =>
    obtain ⟨k, now, wn, f, hk, rfl, rfl, ⟨hb1, hb2⟩, hFI⟩ := hrel
    by_cases hlt : k < zs.length
    · obtain ⟨b, off, hae, hb, hcell0⟩ := (HR.out.chg hFI.hC) (by omega)
      obtain ⟨x, hx⟩ : ∃ x, zs[k]? = some x := ⟨zs[k], List.getElem?_eq_getElem hlt⟩
      have hcell := hcell0 k x hx
      subst hae
      have g0 : wr.cell? ⟨b, off + k * 3, none⟩ = some (.int .i64 x.what) := hcell 0 (by omega)
      have g1 : wr.cell? ⟨b, off + k * 3 + 1, none⟩ = some (.int .i64 x.node) := hcell 1 (by omega)
      have g2 : wr.cell? ⟨b, off + k * 3 + 2, none⟩ = some (.int .i64 x.by_) := hcell 2 (by omega)
      have hwn := hFI.hb
      have HFI := Lib.hid hFI
      clear hFI hcell hcell0 hx
      obtain ⟨what, node, by_⟩ := x
      simp only at g0 g1 g2
      go_upto_region 8 with fail
      obtain ⟨W1, hW1⟩ : ∃ W1, wr.alloc (.cells #[.int .i64 what, .int .i64 node, .int .i64 by_] 29) = W1 := ⟨_, rfl⟩
      have hC1 : Chg [] wr W1 := by rw [← hW1]; exact (Chg.refl _ _).alloc _
      have hq1 : W1.heap[wr.heap.size]? = some (.cells #[.int .i64 what, .int .i64 node, .int .i64 by_] 29 (0, 0)) := by rw [← hW1]; exact has_alloc_new _ _
      rw [hW1]
      have l0 : W1.cell? ⟨wr.heap.size, 0, none⟩ = some (.int .i64 what) := cell_of_has hq1 0
      have l1 : W1.cell? ⟨wr.heap.size, 1, none⟩ = some (.int .i64 node) := cell_of_has hq1 1
      have l2 : W1.cell? ⟨wr.heap.size, 2, none⟩ = some (.int .i64 by_) := cell_of_has hq1 2
      obtain ⟨P, hP⟩ : ∃ P, wr.heap.size = P := ⟨_, rfl⟩
      rw [hP] at l0 l1 l2 hq1 ⊢
      have HC1 := Lib.hid hC1; have HQ1 := Lib.hid hq1
      have hpP : P ≠ p ∧ P ≠ q := by
        have h1 := lt_of_has HFI.out.hW.hp; have h2 := HFI.out.hW.hq.lt
        omega
      have hWP : W.heap.size ≤ P := by rw [← hP]; exact HFI.out.hC.size
      clear hC1 hq1 hW1 g0 g1 g2 hP
      by_cases hin : 0 ≤ by_ ∧ by_ ≤ 1000
      · obtain ⟨hi1, hi2⟩ := hin
        obtain ⟨N2, hN2⟩ : ∃ N2, now + by_ = N2 := ⟨_, rfl⟩
        have hA1 : now ≤ N2 := by omega
        have hA3 : N2 ≤ 300000 := by omega
        have hA4 : N2 ≤ (k + 1 : Nat) * 1000 := by omega
        go_upto_if 67 with fail
        go_cut [12, 13, 15] (fun _ _ _ wx => ∃ (wn2 : Int) (f2 : Nat → Pr), HI wx W p q n m N2 wn2 f2)
        case first =>
          clear_value *
          by_cases hw : what = 2
          · have t0 : (what == 2) = true := by simp [hw]
            clear hw
            go_wp2_with fail
            refine (check_ok p q n m wn f N2 _ (HFI.out.hW.chg0 HC1.out) (by omega) (by omega)).mono ?_
            rintro e w2 ⟨v, rfl, hown, hW2, hC2⟩
            have HH := Lib.hid ((HFI.out.chg0 HC1.out hA1).check hW2 hC2)
            clear hown hW2 hC2
            go_wp2_with fail
            go_meet
            exact ⟨_, _, HH.out⟩
          · have t0 : (what == 2) = false := by simp [hw]
            clear hw
            by_cases hv : 1 ≤ node ∧ node ≤ n
            · obtain ⟨j, rfl⟩ : ∃ j : Nat, node = j := ⟨node.toNat, by omega⟩
              obtain ⟨hv1, hv2⟩ := hv
              go_wp2_with fail
              refine (heard_ok p q n m wn f j N2 _ (HFI.out.hW.chg0 HC1.out) (by omega) (by omega) (by omega) (by omega)).mono ?_
              rintro e w2 ⟨rfl, hW2, hC2⟩
              have hq2 := hC2.has HQ1.out (by simp [hpP])
              have HH := Lib.hid ((HFI.out.chg0 HC1.out hA1).heard hW2 hC2)
              obtain ⟨sb, hsb⟩ : ∃ sb, (f j).silent = sb := ⟨_, rfl⟩
              rw [hsb]
              obtain ⟨F, hF⟩ : ∃ F, heardF f j N2 = F := ⟨_, rfl⟩
              have hFj : (F j).silent = false := by rw [← hF]; simp [heardF]
              rw [hF] at HH
              have HFJ := Lib.hid hFj; have HQ2 := Lib.hid hq2
              clear hsb hW2 hC2 hq2 hF hFj
              go_wp2_with fail
              refine (beat_silent p q n m N2 F _ HH.out.hW).mono ?_
              rintro e w3 ⟨v, rfl, hown, hC3⟩
              obtain ⟨a3, c3, rfl⟩ := own_shape hown
              obtain ⟨hr3, _⟩ := own_readsI hown
              have HH3 := Lib.hid (HH.out.chg0 hC3 (Int.le_refl _)); have HR3 := Lib.hid hr3; have HQ3 := Lib.hid (hC3.has HQ2.out (by simp))
              have hlen := oth_len m (quietB F) (n + 1)
              have hmem : ∀ y, y ∈ oth m (quietB F) (n + 1) → y ≠ j := by
                intro y hy e
                obtain ⟨i, hi, _, _, _, hqu⟩ := oth_mem.1 hy
                have : i = j := by omega
                subst this
                unfold quietB at hqu
                rw [HFJ.out] at hqu
                exact absurd hqu (by decide)
              obtain ⟨L, hL⟩ : ∃ L, oth m (quietB F) (n + 1) = L := ⟨_, rfl⟩
              rw [hL] at hlen hmem HR3
              rw [hL]
              have HM := Lib.hid hmem
              have k1 : w3.cell? ⟨P, 1, none⟩ = some (.int .i64 j) := cell_of_has HQ3.out 1
              clear hown hC3 hr3 hL hmem HQ2
              go_wp2_with fail
              go_loop [82] (fun i => ∃ d : Nat, d ≤ L.length ∧ i = .int .i64 d) (fun i => L.length - (intOf i).toNat)
              case atStart => exact ⟨0, by omega, rfl⟩
              case round =>
                obtain ⟨d, hd, rfl⟩ := hrel
                by_cases hdl : d < L.length
                · obtain ⟨b2, off2, rfl, hb2, hcell2⟩ := HR3.out (by omega)
                  have hx := hcell2 d hdl
                  have hyj := HM.out (L.getD d 0) (by simp [List.getD, hdl])
                  obtain ⟨y, hy⟩ : ∃ y, L.getD d 0 = y := ⟨_, rfl⟩
                  rw [hy] at hx hyj
                  have t2 : (y == (j : Int)) = false := by simpa using hyj
                  clear hcell2 hy hyj
                  go_wp2_with fail
                  exact ⟨⟨d+1, by omega, by go_num⟩, by simp [intOf]; omega⟩
                · obtain rfl : L.length = d := by omega
                  go_wp2_with fail
                  go_meet
                  exact ⟨_, _, HH3.out⟩
            · go_wp2_with fail
              refine (heard_bad p q n m wn f node N2 _ (HFI.out.hW.chg0 HC1.out) (by omega)).mono ?_
              rintro e w2 ⟨rfl, rfl⟩
              have HH := Lib.hid (HFI.out.chg0 HC1.out hA1)
              go_wp2_with fail
              refine (beat_silent p q n m wn f _ HH.out.hW).mono ?_
              rintro e w3 ⟨v, rfl, hown, hC3⟩
              obtain ⟨a3, c3, rfl⟩ := own_shape hown
              obtain ⟨hr3, _⟩ := own_readsI hown
              have HH3 := Lib.hid (HH.out.chg0 hC3 (Int.le_refl _)); have HR3 := Lib.hid hr3
              have hlen := oth_len m (quietB f) (n + 1)
              obtain ⟨L, hL⟩ : ∃ L, oth m (quietB f) (n + 1) = L := ⟨_, rfl⟩
              rw [hL] at hlen HR3
              rw [hL]
              clear hown hC3 hr3 hL
              go_wp2_with fail
              go_loop [82] (fun i => ∃ d : Nat, d ≤ L.length ∧ i = .int .i64 d) (fun i => L.length - (intOf i).toNat)
              case atStart => exact ⟨0, by omega, rfl⟩
              case round =>
                obtain ⟨d, hd, rfl⟩ := hrel
                by_cases hdl : d < L.length
                · obtain ⟨b2, off2, rfl, hb2, hcell2⟩ := HR3.out (by omega)
                  have hx := hcell2 d hdl
                  obtain ⟨y, hy⟩ : ∃ y, L.getD d 0 = y := ⟨_, rfl⟩
                  rw [hy] at hx
                  clear hcell2 hy
                  go_wp2_with fail
                  exact ⟨⟨d+1, by omega, by go_num⟩, by simp [intOf]; omega⟩
                · obtain rfl : L.length = d := by omega
                  go_wp2_with fail
                  go_meet
                  exact ⟨_, _, HH3.out⟩
        case rest =>
          obtain ⟨wn2, f2, hH2⟩ := hcut
          rename World => wc
          have HH2 := Lib.hid hH2
          clear hH2 l0 l1 l2 HFI HQ1 HC1
          clear_value *
          go_wp2_with fail
          refine (beat_silent p q n m wn2 f2 _ HH2.out.hW).mono ?_
          rintro e w3 ⟨v, rfl, hown, hC3⟩
          obtain ⟨a3, c3, rfl⟩ := own_shape hown
          obtain ⟨hr3, _⟩ := own_readsI hown
          have HH3 := Lib.hid (HH2.out.chg0 hC3 (Int.le_refl _)); have HR3 := Lib.hid hr3
          have hlen := oth_len m (quietB f2) (n + 1)
          have hmem : ∀ y, y ∈ oth m (quietB f2) (n + 1) → y ≠ m ∧ 1 ≤ y ∧ y ≤ n := by
            intro y hy
            obtain ⟨i, hi, _, _, hne, _⟩ := oth_mem.1 hy
            omega
          obtain ⟨L, hL⟩ : ∃ L, oth m (quietB f2) (n + 1) = L := ⟨_, rfl⟩
          rw [hL] at hlen HR3 hmem
          rw [hL]
          have HM := Lib.hid hmem
          clear hown hC3 hr3 hL hmem
          go_wp2_with fail
          go_loop [98] (fun i => ∃ d : Nat, d ≤ L.length ∧ i = .int .i64 d) (fun i => L.length - (intOf i).toNat)
          case atStart => exact ⟨0, by omega, rfl⟩
          case round =>
            obtain ⟨d, hd, rfl⟩ := hrel
            by_cases hdl : d < L.length
            · obtain ⟨b2, off2, rfl, hb2, hcell2⟩ := HR3.out (by omega)
              have hx := hcell2 d hdl
              have hyj := HM.out (L.getD d 0) (by simp [List.getD, hdl])
              obtain ⟨y, hy⟩ : ∃ y, L.getD d 0 = y := ⟨_, rfl⟩
              rw [hy] at hx hyj
              obtain ⟨hy1, hy2, hy3⟩ := hyj
              have t2 : (y == (m : Int)) = false := by simpa using hy1
              clear hcell2 hy hy1
              go_wp2_with fail
              exact ⟨⟨d+1, by omega, by go_num⟩, by simp [intOf]; omega⟩
            · obtain rfl : L.length = d := by omega
              go_wp2_with fail
              go_loop [18] (fun i => ∃ d : Nat, d ≤ n ∧ i = .int .i64 (d + 1)) (fun i => n + 1 - (intOf i).toNat)
              case atStart => exact ⟨0, by omega, by simp⟩
              case round =>
                obtain ⟨d, hd, rfl⟩ := hrel
                by_cases hdn : d < n
                · have ht := beat_timeout p q n m wn2 f2 (d + 1 : Nat) w3 HH3.out.hW
                  have he : toErr n (d + 1 : Nat) = 0 := by unfold toErr; rw [if_pos (by omega)]
                  rw [he] at ht
                  by_cases hdm : d + 1 = m
                  · have hz : toOf n m f2 (d + 1 : Nat) = 0 := by unfold toOf; rw [if_neg (by omega)]
                    rw [hz] at ht
                    have t3 : ((d : Int) + 1 == m) = true := by simp; omega
                    have ht' : Calls Try.prog 14 #[.pointer (some ⟨p, 0, none⟩), .int .i64 ((d : Int) + 1)] w3 fun e w' => e = .returned (.tuple #[.int .i64 0, .int .i64 0]) ∧ w3 = w' := ht
                    clear he hz ht hdm
                    go_wp2_with fail
                    refine ht'.mono ?_
                    rintro e w4 ⟨rfl, rfl⟩
                    go_wp2_with fail
                    exact ⟨⟨d+1, by omega, by go_num⟩, by simp [intOf]; omega⟩
                  · have hz : toOf n m f2 (d + 1 : Nat) = (f2 (d + 1)).timeout := by unfold toOf; rw [if_pos (by omega)]; rfl
                    have hT := HH3.out.ht (d + 1)
                    rw [hz] at ht
                    have t3 : ((d : Int) + 1 == m) = false := by simp; omega
                    have ht' : Calls Try.prog 14 #[.pointer (some ⟨p, 0, none⟩), .int .i64 ((d : Int) + 1)] w3 fun e w' => e = .returned (.tuple #[.int .i64 (f2 (d + 1)).timeout, .int .i64 0]) ∧ w3 = w' := ht
                    obtain ⟨T, hTT⟩ : ∃ T, (f2 (d + 1)).timeout = T := ⟨_, rfl⟩
                    rw [hTT] at ht' hT
                    clear he hz ht hdm hTT
                    unfold Tm at hT
                    rcases hT with rfl | rfl | rfl | rfl | rfl
                    all_goals
                      go_wp2_with fail
                      refine ht'.mono ?_
                      rintro e w4 ⟨rfl, rfl⟩
                      go_wp2_with fail
                      all_goals exact ⟨⟨d+1, by omega, by go_num⟩, by simp [intOf]; omega⟩
                · obtain rfl : n = d := by omega
                  go_wp2_with fail
                  go_roundg (zs.length - (k + 1))
                  case measure => omega
                  case rel => exact ⟨k + 1, N2, wn2, f2, by omega, by go_num, rfl, ⟨by omega, hA4⟩, HH3.out⟩
      · have hin' : by_ < 0 ∨ (0 ≤ by_ ∧ 1000 < by_) := by omega
        clear hin
        rcases hin' with h1 | ⟨h1, h2⟩
        · go_wp2_with fail
          go_roundg (zs.length - (k + 1))
          case measure => omega
          case rel => exact ⟨k + 1, now, wn, f, by omega, by go_num, rfl, ⟨hb1, by omega⟩, HFI.out.chg0 HC1.out (Int.le_refl _)⟩
        · go_wp2_with fail
          go_roundg (zs.length - (k + 1))
          case measure => omega
          case rel => exact ⟨k + 1, now, wn, f, by omega, by go_num, rfl, ⟨hb1, by omega⟩, HFI.out.chg0 HC1.out (Int.le_refl _)⟩
    · obtain rfl : zs.length = k := by omega
      have HC := Lib.hid hFI.hC
      clear hFI
      go_wp2_with fail
      refine (five_ok _).mono ?_
      rintro e w6 ⟨rfl, hC6⟩
      go_wp2_with fail
      go_ret
      exact ⟨rfl, (HC.out.trans hC6).below⟩

set_option maxRecDepth 100000 in
theorem heard_any (n me : Int) (a : Option Addr) (cap : Nat) (zs : List St3) (W : World) (hR : ReadsT W a zs) :
    Calls Try.prog 4 #[.int .i64 n, .int .i64 me, .slice a zs.length cap] W fun e w' => e = .returned (.bool true) ∧ Below W.heap.size W w' := by
  by_cases hb : newOK n me 0
  · obtain ⟨h1, h2, h3, h4, h5, h6⟩ := hb
    obtain ⟨k, rfl⟩ : ∃ k : Nat, n = k := ⟨n.toNat, by omega⟩
    obtain ⟨m, rfl⟩ : ∃ m : Nat, me = m := ⟨me.toNat, by omega⟩
    by_cases hz : zs.length ≤ 300
    · exact heard_main k m a cap zs W hR hz (by omega) (by omega)
    · clear hR
      have h1 : 300 < (zs.length : Int) := by omega
      go_enter Try.func4, Try.ntmps4
      go_wp2_with fail
      refine (new_ok k m 0 _ ⟨by omega, h2, h3, h4, h5, h6⟩).mono ?_
      rintro e w1 ⟨p, q, rfl, hp, hq, hW, hC⟩
      have HC := Lib.hid hC; clear hC hW
      go_wp2_with fail
      refine (five_ok _).mono ?_
      rintro e w3 ⟨rfl, hC3⟩
      go_wp2_with fail
      go_ret
      exact ⟨rfl, (HC.out.trans hC3).below⟩
  · have HB := Lib.hid hb
    clear hR hb
    go_enter Try.func4, Try.ntmps4
    go_wp2_with fail
    refine (new_bad n me 0 _ HB.out).mono ?_
    rintro e w1 ⟨rfl, rfl⟩
    go_wp2_with fail
    refine (five_ok _).mono ?_
    rintro e w3 ⟨rfl, hC3⟩
    go_wp2_with fail
    go_ret
    exact ⟨rfl, hC3.below⟩

section
open Go.WideShapes Go.ChangeShapes
variable {H : Type} (enc : TypeId × Value → H) (W : World)

theorem beatHeard_law {v0 v1 v2 : Value} {d0 d1 d2 : DataW H} {p0 p1 p2 : List MemPlace} {base : Nat}
    (h0 : DataW.Trod enc Try.prog W 0 (fun _ => true) true 3 v0 d0 p0) (k0 : Value.okWide Try.prog W .any base 3 v0)
    (h1 : DataW.Trod enc Try.prog W 0 (fun _ => true) true 3 v1 d1 p1) (k1 : Value.okWide Try.prog W .any base 3 v1)
    (h2 : DataW.Trod enc Try.prog W 0 (fun _ => true) true 22 v2 d2 p2) (k2 : Value.okWide Try.prog W .any base 22 v2)
    (_hsz : (DataW.weightsEach Try.prog [3, 3, 22] [d0, d1, d2]).all (· ≤ reachBytes) = true) :
    Calls Try.prog 4 #[v0, v1, v2] W fun e w' => e = .returned (.bool true) ∧ Below W.heap.size W w' := by
  obtain ⟨z, rfl, _⟩ := open_int (k := .i64) Try.underlying3 k0 h0
  obtain ⟨y, rfl, _⟩ := open_int (k := .i64) Try.underlying3 k1 h1
  obtain ⟨n2, g2⟩ := h2
  obtain ⟨a0, len0, cap0, rfl⟩ := okWide_slice Try.underlying22 k2
  obtain ⟨A, c, zs, hv, hz, hR⟩ := open_steps g2
  injection hv with e1 e2 e3
  subst e1; subst e2; subst e3
  exact heard_any z y _ _ zs W hR

end

end Go.Proofs.Ytogianigkpldcaa
