/- BeatSteps: the walk of the law. -/
import Derived.Test.YtogianigkpldcaaBeatO
import Derived.Test.YtogianigkpldcaaBeatF
namespace Go.Proofs.Ytogianigkpldcaa
set_option linter.unusedVariables false
set_option linter.unusedSimpArgs false
open Go.RowKit

/-- Both watches, with the same things known. -/
structure BI (wr W : World) (p q p' q' n cap m : Nat) (now : Int) (f : Nat → Pr) : Prop where
  hW : WT wr p q n m now f
  hR : RT wr p' q' n cap m now f
  hs : (f m).silent = false
  hC : Chg [] W wr
  hb : W.heap.size ≤ p ∧ W.heap.size ≤ q ∧ W.heap.size ≤ p' ∧ W.heap.size ≤ q'

theorem blk_ne {w : World} {b c : Nat} {cs ds : Array Value} {t u : TypeId} (h1 : w.heap[b]? = some (.cells cs t (0, 0))) (h2 : w.heap[c]? = some (.cells ds u (0, 0))) (hne : t ≠ u) : b ≠ c := by
  rintro rfl
  rw [h1] at h2
  injection h2 with h2
  injection h2 with _ h3 _
  exact hne h3

theorem BI.sep {wr W : World} {p q p' q' n cap m : Nat} {now : Int} {f : Nat → Pr} (h : BI wr W p q p' q' n cap m now f) : p' ≠ p ∧ p' ≠ q ∧ q' ≠ p ∧ q' ≠ q := by
  obtain ⟨cs, h1, _⟩ := h.hW.hq
  obtain ⟨ds, h2, _⟩ := h.hR.hq
  exact ⟨blk_ne h.hR.hp h.hW.hp (by decide), blk_ne h.hR.hp h1 (by decide), blk_ne h2 h.hW.hp (by decide), blk_ne h2 h1 (by decide)⟩
theorem BI.chg0 {wr wr' W : World} {p q p' q' n cap m : Nat} {now : Int} {f : Nat → Pr} (h : BI wr W p q p' q' n cap m now f) (hC : Chg [] wr wr') : BI wr' W p q p' q' n cap m now f :=
  ⟨h.hW.chg0 hC, h.hR.chg0 hC, h.hs, h.hC.trans hC, h.hb⟩

/-- The program's watch was told something, then the document's. -/
theorem BI.both {wr w1 w2 w3 W : World} {p q p' q' n cap m : Nat} {now now' : Int} {f g : Nat → Pr} (h : BI wr W p q p' q' n cap m now f) (hW : WT w1 p q n m now' g) (hC1 : Chg [p, q] wr w1) (hC2 : Chg [] w1 w2)
    (hR : RT w3 p' q' n cap m now' g) (hC3 : Chg [p', q'] w2 w3) (hs : (g m).silent = false) : BI w3 W p q p' q' n cap m now' g := by
  have hsep := h.sep
  refine ⟨(hW.chg0 hC2).chg hC3 (by simp; omega) (by simp; omega), hR, hs, ?_, h.hb⟩
  have hb := h.hb
  exact ((h.hC.trans_new hC1 (by simp; omega)).trans hC2).trans_new hC3 (by simp; omega)
theorem BI.rt {wr w1 w2 W : World} {p q p' q' n cap m : Nat} {now : Int} {f : Nat → Pr} (h : BI wr W p q p' q' n cap m now f) (hC1 : Chg [p, q] wr w1) (hC2 : Chg [] w1 w2) : RT w2 p' q' n cap m now f := by
  have hsep := h.sep
  exact (h.hR.chg hC1 (by simp; omega) (by simp; omega)).chg0 hC2

theorem heard_sil {f : Nat → Pr} {m k : Nat} {now : Int} (h : (f m).silent = false) : (heardF f k now m).silent = false := by
  unfold heardF; split
  · rfl
  · exact h
theorem check_sil {f : Nat → Pr} {n m : Nat} {now : Int} (h : (f m).silent = false) : (sil f (lates n m now f) m).silent = false := by
  unfold sil
  rw [if_neg]
  · exact h
  · unfold lates
    rw [oth_mem]
    rintro ⟨i, hi, _, _, hne, _⟩
    exact hne hi.symm

theorem sil_me {f : Nat → Pr} {m : Nat} (h : (f m).silent = false) (i : Nat) (hi : (i : Int) = m) : (f i).silent = false := by
  have : i = m := by omega
  rw [this]; exact h

theorem decide_self (L : List Int) : decide (L = L) = true := by simp

set_option maxRecDepth 100000 in
set_option maxHeartbeats 8000000 in
theorem bsteps_main (n m : Nat) (a : Option Addr) (cap0 : Nat) (zs : List St3) (W : World) (hR : ReadsT W a zs) (hz : zs.length ≤ 400) (hn : 1 ≤ n ∧ n ≤ 10) (hm : 1 ≤ m ∧ m ≤ n) :
    Calls Try.prog 5 #[.int .i64 n, .int .i64 m, .slice a zs.length cap0] W fun e w' => e = .returned (.bool true) ∧ Below W.heap.size W w' := by
  have HR := Lib.hid hR; clear hR
  have hz' : (zs.length : Int) ≤ 400 := by omega
  go_enter Try.func5, Try.ntmps5
  go_wp2_with fail
  refine (new_ok n m 3 _ ⟨by omega, by omega, by omega, by omega, by decide, by decide⟩).mono ?_
  rintro e w1 ⟨p, q, rfl, hp, hq, hW, hC⟩
  have HW := Lib.hid hW; have HC := Lib.hid hC
  clear hW hC
  go_wp2_with fail
  refine (rnew_ok n m 3 _ ⟨by omega, by omega, by omega, by omega, by decide, by decide⟩).mono ?_
  rintro e w2 ⟨p', q', cap, rfl, hp', hq', hR, hC2⟩
  have hsz := HC.out.size
  have HB0 := Lib.hid (show BI w2 W p q p' q' n cap m 3 (newF 3) from ⟨HW.out.chg0 hC2, hR, rfl, HC.out.trans hC2, ⟨hp, hq, by omega, by omega⟩⟩)
  clear hR hC2 hp hq hp' hq' hsz HW HC
  go_wp2_with fail
  go_loopg [57] zs.length (fun gk i wr => ∃ (k : Nat) (now : Int) (f : Nat → Pr), gk + k = zs.length ∧ i = .int .i64 k ∧ BI wr W p q p' q' n cap m now f)
  case atStart => exact ⟨0, _, _, rfl, rfl, HB0.out⟩
  case round =>
    obtain ⟨k, now, f, hk, rfl, hB⟩ := hrel
    have hnow := hB.hW.ok.hnow
    obtain ⟨hnow1, hnow2⟩ := hnow
    by_cases hlt : k < zs.length
    · obtain ⟨b, off, hae, hb, hcell0⟩ := (HR.out.chg hB.hC) (by omega)
      obtain ⟨x, hx⟩ : ∃ x, zs[k]? = some x := ⟨zs[k], List.getElem?_eq_getElem hlt⟩
      have hcell := hcell0 k x hx
      subst hae
      have g0 : wr.cell? ⟨b, off + k * 3, none⟩ = some (.int .i64 x.what) := hcell 0 (by omega)
      have g1 : wr.cell? ⟨b, off + k * 3 + 1, none⟩ = some (.int .i64 x.node) := hcell 1 (by omega)
      have g2 : wr.cell? ⟨b, off + k * 3 + 2, none⟩ = some (.int .i64 x.by_) := hcell 2 (by omega)
      have HB := Lib.hid hB
      clear hB hcell hcell0 hx
      obtain ⟨what, node, by_⟩ := x
      simp only at g0 g1 g2
      go_upto_region 10 with fail
      obtain ⟨W1, hW1⟩ : ∃ W1, wr.alloc (.cells #[.int .i64 what, .int .i64 node, .int .i64 by_] 29) = W1 := ⟨_, rfl⟩
      have hC1 : Chg [] wr W1 := by rw [← hW1]; exact (Chg.refl _ _).alloc _
      have hq1 : W1.heap[wr.heap.size]? = some (.cells #[.int .i64 what, .int .i64 node, .int .i64 by_] 29 (0, 0)) := by rw [← hW1]; exact has_alloc_new _ _
      rw [hW1]
      obtain ⟨P, hP⟩ : ∃ P, wr.heap.size = P := ⟨_, rfl⟩
      rw [hP] at hq1 ⊢
      have hB1 := HB.out.chg0 hC1
      have l0 : W1.cell? ⟨P, 0, none⟩ = some (.int .i64 what) := cell_of_has hq1 0
      have l1 : W1.cell? ⟨P, 1, none⟩ = some (.int .i64 node) := cell_of_has hq1 1
      have l2 : W1.cell? ⟨P, 2, none⟩ = some (.int .i64 by_) := cell_of_has hq1 2
      have v2 : W1.cell? ⟨p', 2, none⟩ = some (.int .i64 now) := cell_of_has hB1.hR.hp 2
      obtain ⟨cs1, hcs1, _⟩ := hB1.hW.hq
      obtain ⟨cs2, hcs2, _⟩ := hB1.hR.hq
      have hne1 := blk_ne hq1 hB1.hW.hp (by decide)
      have hne2 := blk_ne hq1 hcs1 (by decide)
      have hne3 := blk_ne hq1 hB1.hR.hp (by decide)
      have hne4 := blk_ne hq1 hcs2 (by decide)
      have HB1 := Lib.hid hB1; have HQ1 := Lib.hid hq1
      clear hC1 hB1 hq1 hW1 g0 g1 g2 hP HB hcs1 hcs2
      go_upto_region 11 with fail
      go_cut [70] (fun v wx => v = .bool (decide (0 ≤ by_ ∧ by_ < 1000)) ∧ W1 = wx)
      case first =>
        by_cases h1 : 0 ≤ by_
        · by_cases h2 : by_ < 1000
          · go_wp2_with fail
            go_meet
            exact ⟨by simp [h1, h2], rfl⟩
          · go_wp2_with fail
            go_meet
            exact ⟨by simp [h1, h2], rfl⟩
        · go_wp2_with fail
          go_meet
          exact ⟨by simp; omega, rfl⟩
      case rest =>
      obtain ⟨rfl, rfl⟩ := hcut
      have hdec : ∃ bb : Bool, decide (0 ≤ by_ ∧ by_ < 1000) = bb ∧ (bb = true → 0 ≤ by_ ∧ by_ < 1000) := ⟨_, rfl, by simp⟩
      obtain ⟨bb, hbb, hby⟩ := hdec
      rw [hbb]
      go_upto_if 70 with fail
      go_cut [13] (fun v wx => ∃ N2 : Int, v = .int .i64 N2 ∧ ∃ c, W1.drewN c = wx)
      case first =>
        cases bb
        · go_wp2_with fail
          go_meet
          exact ⟨_, rfl, 0, rfl⟩
        · obtain ⟨h1, h2⟩ := hby rfl
          go_wp2_with fail
          go_quiet (fail)
          go_wp2_with fail
          go_meet
          exact ⟨_, rfl, _, rfl⟩
      case rest =>
        obtain ⟨N2, rfl, c, rfl⟩ := hcut
        have hC1 : Chg [] W1 (W1.drewN c) := (Chg.refl _ _).drewN c
        have hB2 := HB1.out.chg0 hC1
        have hq2 := hC1.has HQ1.out (by simp)
        obtain ⟨W2, hW2⟩ : ∃ W2, W1.drewN c = W2 := ⟨_, rfl⟩
        rw [hW2] at hB2 hq2 ⊢
        have HB := Lib.hid hB2; have HQ := Lib.hid hq2
        have l0 : W2.cell? ⟨P, 0, none⟩ = some (.int .i64 what) := cell_of_has hq2 0
        have l1 : W2.cell? ⟨P, 1, none⟩ = some (.int .i64 node) := cell_of_has hq2 1
        clear hC1 hB2 hq2 hW2 hbb hby l2 v2 HB1 HQ1
        go_upto_block 2 with fail
        go_cut [14, 15, 16, 17, 18, 19, 20, 21, 80, 107] (fun _ _ _ _ _ _ _ _ _ _ wx => ∃ (now3 : Int) (f3 : Nat → Pr), BI wx W p q p' q' n cap m now3 f3 ∧ wx.heap[P]? = some (.cells #[.int .i64 what, .int .i64 node, .int .i64 by_] 29 (0, 0)))
        case first => as_aux_lemma =>
          by_cases hw2 : what = 2
          · have t0 : (what == 0) = false := by simp [hw2]
            have t1 : (what == 1) = false := by simp [hw2]
            have t2 : (what == 2) = true := by simp [hw2]
            clear hw2
            by_cases hok : now ≤ N2 ∧ N2 ≤ 1099511627776
            · obtain ⟨hok1, hok2⟩ := hok
              have hS1 := check_sil (n := n) (now := N2) HB.out.hs
              have hcw := check_ok p q n m now f N2 W2 HB.out.hW hok1 hok2
              have hcr := fun w hR => rcheck_ok p' q' n cap m now f N2 w hR hok1 hok2
              have hlen : (lates n m N2 f).length ≤ n + 1 := oth_len _ _ _
              obtain ⟨L, hL⟩ : ∃ L, lates n m N2 f = L := ⟨_, rfl⟩
              rw [hL] at hcw hS1 hlen
              simp only [hL] at hcr
              have HCR := Lib.hid hcr; have HS1 := Lib.hid hS1
              clear hL hcr hS1
              go_wp2_with fail
              refine hcw.mono ?_
              rintro e w3 ⟨v3, rfl, hv3, hW3, hC3⟩
              obtain ⟨a3, c3, rfl⟩ := own_shape hv3
              have hR3 := HB.out.rt hC3 (Chg.refl [] _)
              have HV3 := Lib.hid hv3; have HW3 := Lib.hid hW3; have HC3 := Lib.hid hC3; have HR3 := Lib.hid hR3
              have hsz3 := hC3.size
              clear hcw hv3 hW3 hC3 hR3
              go_wp2_with fail
              refine (HCR.out _ HR3.out).mono ?_
              rintro e w4 ⟨v4, rfl, hv4, hR4, hC4⟩
              obtain ⟨a4, c4, rfl⟩ := own_shape hv4
              have hr4 := (own_readsI hv4).1
              have hr3 := (own_readsI (own_chg HV3.out hC4 (by
                intro b hb
                have h1 := (HV3.out.lt b hb).1
                have h2 := lt_of_has HB.out.hR.hp; have h3 := HB.out.hR.hq.lt
                simp; omega))).1
              have HB4 := Lib.hid (HB.out.both HW3.out HC3.out (Chg.refl [] _) hR4 hC4 HS1.out)
              have HQ4 := Lib.hid (hC4.has (HC3.out.has HQ.out (by simp; omega)) (by simp; omega))
              have HR34 := Lib.hid (And.intro hr3 hr4)
              clear hv4 hR4 hC4 hr3 hr4 HV3 HW3 HC3 HR3
              go_wp2_with fail
              refine (plain_ints a3 a4 _ c3 _ c4 L L _ rfl rfl (by omega) (by omega) HR34.out.1 HR34.out.2).mono ?_
              rw [decide_self]
              rintro e w5 ⟨rfl, c5, rfl⟩
              go_wp2_with fail
              go_meet
              exact ⟨_, _, HB4.out.chg0 ((Chg.refl _ _).drewN _), HQ4.out⟩
            · have hcw := check_bad p q n m now f N2 W2 HB.out.hW hok
              have hcr := rcheck_bad p' q' n cap m now f N2 W2 HB.out.hR hok
              clear hok
              go_wp2_with fail
              refine hcw.mono ?_
              rintro e w3 ⟨rfl, rfl⟩
              go_wp2_with fail
              refine hcr.mono ?_
              rintro e w3 ⟨rfl, rfl⟩
              go_wp2_with fail
              refine (plain_ints none none 0 0 0 0 [] [] _ rfl rfl (by omega) (by omega) (fun h => absurd h (by decide)) (fun h => absurd h (by decide))).mono ?_
              rw [decide_self]
              rintro e w5 ⟨rfl, c5, rfl⟩
              go_wp2_with fail
              go_meet
              exact ⟨_, _, HB.out.chg0 ((Chg.refl _ _).drewN _), HQ.out⟩
          · have t2 : (what == 2) = false := by simp [hw2]
            by_cases hw0 : what = 0
            · have t0 : (what == 0) = true := by simp [hw0]
              clear hw2 hw0
              by_cases hok : 1 ≤ node ∧ node ≤ n ∧ now ≤ N2 ∧ N2 ≤ 1099511627776
              · obtain ⟨j, rfl⟩ : ∃ j : Nat, node = j := ⟨node.toNat, by omega⟩
                obtain ⟨hv1, hv2, hok1, hok2⟩ := hok
                have hS1 := heard_sil (k := j) (now := N2) HB.out.hs
                have hcw := heard_ok p q n m now f j N2 W2 HB.out.hW (by omega) (by omega) hok1 hok2
                have hcr := fun w hR => rheard_ok p' q' n cap m now f j N2 w hR (by omega) (by omega) hok1 hok2
                obtain ⟨sb, hsb⟩ : ∃ sb, (f j).silent = sb := ⟨_, rfl⟩
                rw [hsb] at hcw
                simp only [hsb] at hcr
                have HCR := Lib.hid hcr; have HS1 := Lib.hid hS1
                clear hsb hcr hS1
                go_wp2_with fail
                refine hcw.mono ?_
                rintro e w3 ⟨rfl, hW3, hC3⟩
                have hR3 := HB.out.rt hC3 (Chg.refl [] _)
                have hq3 := hC3.has HQ.out (by simp; omega)
                have l1 : w3.cell? ⟨P, 1, none⟩ = some (.int .i64 j) := cell_of_has hq3 1
                have HW3 := Lib.hid hW3; have HC3 := Lib.hid hC3; have HR3 := Lib.hid hR3; have HQ3 := Lib.hid hq3
                clear hcw hW3 hC3 hR3 hq3
                go_wp2_with fail
                refine (HCR.out _ HR3.out).mono ?_
                rintro e w4 ⟨rfl, hR4, hC4⟩
                have HB4 := Lib.hid (HB.out.both HW3.out HC3.out (Chg.refl [] _) hR4 hC4 HS1.out)
                have HQ4 := Lib.hid (hC4.has HQ3.out (by simp; omega))
                clear hR4 hC4 HW3 HC3 HR3 HQ3
                cases sb
                · go_wp2_with fail
                  go_meet
                  exact ⟨_, _, HB4.out, HQ4.out⟩
                · go_wp2_with fail
                  go_meet
                  exact ⟨_, _, HB4.out, HQ4.out⟩
              · have hcw := heard_bad p q n m now f node N2 W2 HB.out.hW hok
                have hcr := rheard_bad p' q' n cap m now f node N2 W2 HB.out.hR hok
                clear hok
                go_wp2_with fail
                refine hcw.mono ?_
                rintro e w3 ⟨rfl, rfl⟩
                go_wp2_with fail
                refine hcr.mono ?_
                rintro e w3 ⟨rfl, rfl⟩
                go_wp2_with fail
                go_meet
                exact ⟨_, _, HB.out, HQ.out⟩
            · have t0 : (what == 0) = false := by simp [hw0]
              by_cases hw1 : what = 1
              · have t1 : (what == 1) = true := by simp [hw1]
                clear hw2 hw0 hw1
                by_cases hok : 1 ≤ node ∧ node ≤ n ∧ now ≤ N2 ∧ N2 ≤ 1099511627776
                · obtain ⟨j, rfl⟩ : ∃ j : Nat, node = j := ⟨node.toNat, by omega⟩
                  obtain ⟨hv1, hv2, hok1, hok2⟩ := hok
                  have hS1 := heard_sil (k := j) (now := N2) HB.out.hs
                  have hcw := heard_ok p q n m now f j N2 W2 HB.out.hW (by omega) (by omega) hok1 hok2
                  have hcr := fun w hR => rheard_ok p' q' n cap m now f j N2 w hR (by omega) (by omega) hok1 hok2
                  obtain ⟨sb, hsb⟩ : ∃ sb, (f j).silent = sb := ⟨_, rfl⟩
                  rw [hsb] at hcw
                  simp only [hsb] at hcr
                  have HCR := Lib.hid hcr; have HS1 := Lib.hid hS1
                  clear hsb hcr hS1
                  go_wp2_with fail
                  refine hcw.mono ?_
                  rintro e w3 ⟨rfl, hW3, hC3⟩
                  have hR3 := HB.out.rt hC3 (Chg.refl [] _)
                  have hq3 := hC3.has HQ.out (by simp; omega)
                  have l1 : w3.cell? ⟨P, 1, none⟩ = some (.int .i64 j) := cell_of_has hq3 1
                  have HW3 := Lib.hid hW3; have HC3 := Lib.hid hC3; have HR3 := Lib.hid hR3; have HQ3 := Lib.hid hq3
                  clear hcw hW3 hC3 hR3 hq3
                  go_wp2_with fail
                  refine (HCR.out _ HR3.out).mono ?_
                  rintro e w4 ⟨rfl, hR4, hC4⟩
                  have HB4 := Lib.hid (HB.out.both HW3.out HC3.out (Chg.refl [] _) hR4 hC4 HS1.out)
                  have HQ4 := Lib.hid (hC4.has HQ3.out (by simp; omega))
                  clear hR4 hC4 HW3 HC3 HR3 HQ3
                  cases sb
                  · go_wp2_with fail
                    go_meet
                    exact ⟨_, _, HB4.out, HQ4.out⟩
                  · go_wp2_with fail
                    go_meet
                    exact ⟨_, _, HB4.out, HQ4.out⟩
                · have hcw := heard_bad p q n m now f node N2 W2 HB.out.hW hok
                  have hcr := rheard_bad p' q' n cap m now f node N2 W2 HB.out.hR hok
                  clear hok
                  go_wp2_with fail
                  refine hcw.mono ?_
                  rintro e w3 ⟨rfl, rfl⟩
                  go_wp2_with fail
                  refine hcr.mono ?_
                  rintro e w3 ⟨rfl, rfl⟩
                  go_wp2_with fail
                  go_meet
                  exact ⟨_, _, HB.out, HQ.out⟩
              · have t1 : (what == 1) = false := by simp [hw1]
                clear hw2 hw0 hw1
                go_wp2_with fail
                go_meet
                exact ⟨_, _, HB.out, HQ.out⟩
        case rest =>
          obtain ⟨now3, f3, hB3, hq3⟩ := hcut
          rename World => wc
          have hnow3 := hB3.hW.ok.hnow
          have l1 : wc.cell? ⟨P, 1, none⟩ = some (.int .i64 node) := cell_of_has hq3 1
          have v2 : wc.cell? ⟨p', 2, none⟩ = some (.int .i64 now3) := cell_of_has hB3.hR.hp 2
          have v3 : wc.cell? ⟨p', 3, none⟩ = some (.slice (some ⟨q', 0, none⟩) (n + 1) cap) := cell_of_has hB3.hR.hp 3
          have HB3 := Lib.hid hB3; have HQ3 := Lib.hid hq3
          clear hB3 hq3 l0 HB HQ hnow3
          clear_value *
          have hct := beat_timeout p q n m now3 f3 node wc HB3.out.hW
          have hcs := fun w (h : BI w W p q p' q' n cap m now3 f3) => beat_silent p q n m now3 f3 w h.hW
          have hcr := fun w (h : BI w W p q p' q' n cap m now3 f3) => rsilent p' q' n cap m now3 f3 w h.hR (sil_me h.hs)
          have hcn := fun w (h : BI w W p q p' q' n cap m now3 f3) => beat_now p q n m now3 f3 w h.hW
          obtain ⟨L, hL⟩ : ∃ L, oth m (quietB f3) (n + 1) = L := ⟨_, rfl⟩
          have hlen : L.length ≤ n + 1 := by rw [← hL]; exact oth_len _ _ _
          simp only [hL] at hcs hcr
          have HCS := Lib.hid hcs; have HCR := Lib.hid hcr; have HCN := Lib.hid hcn
          clear hcs hcr hcn hL
          have hB := HB3.out
          have hLo := Lib.hid HQ3.out
          by_cases hv : 1 ≤ node ∧ node ≤ n
          · obtain ⟨j, rfl⟩ : ∃ j : Nat, node = j := ⟨node.toNat, by omega⟩
            obtain ⟨hv1, hv2⟩ := hv
            have d1 := hB.hR.hq.c1 (i := j) (by omega)
            by_cases hjm : (j : Int) = m
            · as_aux_lemma =>
              have t5 : ((j : Int) != m) = false := by simp [hjm]
              rw [show toOf n m f3 j = 0 by unfold toOf; rw [if_neg (by omega)], show toErr n j = 0 by unfold toErr; rw [if_pos (by omega)]] at hct
              clear d1 hjm
              go_wp2_with fail
              refine hct.mono ?_
              rintro e w7 ⟨rfl, rfl⟩
              clear hct
              go_upto_region 29 with fail
              first | (go_region_held3 (fun w' => w'.cell? ⟨P, 1, none⟩ = some (.int .i64 j) ∧ w'.cell? ⟨p', 2, none⟩ = some (.int .i64 now3)) (first | exact ⟨l1, v2⟩ | go_keep) (first
              | (go_at_call 13; go_loud (refine (HCS.out _ (hB.chg0 (by repeat (with_reducible first | exact Chg.refl _ _ | apply Chg.drew | apply Chg.drewN | apply Chg.alloc)))).mono ?_; rintro e w7 ⟨v7, rfl, hv7, hC7⟩; obtain ⟨a7, c7, rfl⟩ := own_shape hv7; have hB7 := (hB.chg0 (by repeat (with_reducible first | exact Chg.refl _ _ | apply Chg.drew | apply Chg.drewN | apply Chg.alloc))).chg0 hC7; have hL7 := Lib.hid (hC7.has (Chg.has (S := []) (by repeat (with_reducible first | exact Chg.refl _ _ | apply Chg.drew | apply Chg.drewN | apply Chg.alloc)) hLo.out (by simp)) (by simp)); clear hB hLo l1 v2; have hB := hB7; have hLo := hL7; clear hB7 hL7; have l1 := cell_of_has hLo.out 1; have v2 := cell_of_has hB.hR.hp 2; have hv7 := Lib.hid (own_readsI hv7).1; (try (have hv9 := Lib.hid ((ReadsI.chg (S := []) hv8.out (by repeat (with_reducible first | exact Chg.refl _ _ | apply Chg.drew | apply Chg.drewN | apply Chg.alloc)) (by simp)).chg hC7 (by simp)); clear hv8; have hv8 := hv9; clear hv9)); clear hC7))
              | (go_at_call 19; go_loud (refine (HCR.out _ (hB.chg0 (by repeat (with_reducible first | exact Chg.refl _ _ | apply Chg.drew | apply Chg.drewN | apply Chg.alloc)))).mono ?_; rintro e w8 ⟨v8, rfl, hv8, hC7⟩; obtain ⟨a8, c8, rfl⟩ := own_shape hv8; have hB7 := (hB.chg0 (by repeat (with_reducible first | exact Chg.refl _ _ | apply Chg.drew | apply Chg.drewN | apply Chg.alloc))).chg0 hC7; have hL7 := Lib.hid (hC7.has (Chg.has (S := []) (by repeat (with_reducible first | exact Chg.refl _ _ | apply Chg.drew | apply Chg.drewN | apply Chg.alloc)) hLo.out (by simp)) (by simp)); clear hB hLo l1 v2; have hB := hB7; have hLo := hL7; clear hB7 hL7; have l1 := cell_of_has hLo.out 1; have v2 := cell_of_has hB.hR.hp 2; have hv8 := Lib.hid (own_readsI hv8).1; (try (have hv9 := Lib.hid ((ReadsI.chg (S := []) hv7.out (by repeat (with_reducible first | exact Chg.refl _ _ | apply Chg.drew | apply Chg.drewN | apply Chg.alloc)) (by simp)).chg hC7 (by simp)); clear hv7; have hv7 := hv9; clear hv9)); clear hC7))
              | (go_at_call 18; go_loud (refine (plain_ints a7 a8 _ c7 _ c8 L L _ rfl rfl (by omega) (by omega) (ReadsI.chg (S := []) hv7.out (by repeat (with_reducible first | exact Chg.refl _ _ | apply Chg.drew | apply Chg.drewN | apply Chg.alloc)) (by simp)) (ReadsI.chg (S := []) hv8.out (by repeat (with_reducible first | exact Chg.refl _ _ | apply Chg.drew | apply Chg.drewN | apply Chg.alloc)) (by simp))).mono ?_; rw [decide_self]; rintro e w9 ⟨rfl, c9, rfl⟩))
              | (go_at_call 20; go_loud (refine (HCN.out _ (hB.chg0 (by repeat (with_reducible first | exact Chg.refl _ _ | apply Chg.drew | apply Chg.drewN | apply Chg.alloc)))).mono ?_; rintro e w9 ⟨rfl, rfl⟩)))) | fail
              all_goals
                go_wp2_with fail
                go_roundg (zs.length - (k + 1))
                case measure => omega
                case rel => exact ⟨k + 1, now3, f3, by omega, by go_num, hB.chg0 (by repeat (with_reducible first | exact Chg.refl _ _ | apply Chg.drew | apply Chg.drewN | apply Chg.alloc))⟩
            · as_aux_lemma =>
              have t5 : ((j : Int) != m) = true := by simp [hjm]
              rw [show toOf n m f3 j = (f3 j).timeout by unfold toOf; rw [if_pos (by omega)]; simp, show toErr n j = 0 by unfold toErr; rw [if_pos (by omega)]] at hct
              obtain ⟨T, hT⟩ : ∃ T, (f3 j).timeout = T := ⟨_, rfl⟩
              rw [hT] at hct d1
              clear hT hjm
              go_wp2_with fail
              refine hct.mono ?_
              rintro e w7 ⟨rfl, rfl⟩
              clear hct
              go_wp2_with fail
              go_quiet (fail)
              go_upto_region 29 with fail
              first | (go_region_held3 (fun w' => w'.cell? ⟨P, 1, none⟩ = some (.int .i64 j) ∧ w'.cell? ⟨p', 2, none⟩ = some (.int .i64 now3)) (first | exact ⟨l1, v2⟩ | go_keep) (first
              | (go_at_call 13; go_loud (refine (HCS.out _ (hB.chg0 (by repeat (with_reducible first | exact Chg.refl _ _ | apply Chg.drew | apply Chg.drewN | apply Chg.alloc)))).mono ?_; rintro e w7 ⟨v7, rfl, hv7, hC7⟩; obtain ⟨a7, c7, rfl⟩ := own_shape hv7; have hB7 := (hB.chg0 (by repeat (with_reducible first | exact Chg.refl _ _ | apply Chg.drew | apply Chg.drewN | apply Chg.alloc))).chg0 hC7; have hL7 := Lib.hid (hC7.has (Chg.has (S := []) (by repeat (with_reducible first | exact Chg.refl _ _ | apply Chg.drew | apply Chg.drewN | apply Chg.alloc)) hLo.out (by simp)) (by simp)); clear hB hLo l1 v2; have hB := hB7; have hLo := hL7; clear hB7 hL7; have l1 := cell_of_has hLo.out 1; have v2 := cell_of_has hB.hR.hp 2; have hv7 := Lib.hid (own_readsI hv7).1; (try (have hv9 := Lib.hid ((ReadsI.chg (S := []) hv8.out (by repeat (with_reducible first | exact Chg.refl _ _ | apply Chg.drew | apply Chg.drewN | apply Chg.alloc)) (by simp)).chg hC7 (by simp)); clear hv8; have hv8 := hv9; clear hv9)); clear hC7))
              | (go_at_call 19; go_loud (refine (HCR.out _ (hB.chg0 (by repeat (with_reducible first | exact Chg.refl _ _ | apply Chg.drew | apply Chg.drewN | apply Chg.alloc)))).mono ?_; rintro e w8 ⟨v8, rfl, hv8, hC7⟩; obtain ⟨a8, c8, rfl⟩ := own_shape hv8; have hB7 := (hB.chg0 (by repeat (with_reducible first | exact Chg.refl _ _ | apply Chg.drew | apply Chg.drewN | apply Chg.alloc))).chg0 hC7; have hL7 := Lib.hid (hC7.has (Chg.has (S := []) (by repeat (with_reducible first | exact Chg.refl _ _ | apply Chg.drew | apply Chg.drewN | apply Chg.alloc)) hLo.out (by simp)) (by simp)); clear hB hLo l1 v2; have hB := hB7; have hLo := hL7; clear hB7 hL7; have l1 := cell_of_has hLo.out 1; have v2 := cell_of_has hB.hR.hp 2; have hv8 := Lib.hid (own_readsI hv8).1; (try (have hv9 := Lib.hid ((ReadsI.chg (S := []) hv7.out (by repeat (with_reducible first | exact Chg.refl _ _ | apply Chg.drew | apply Chg.drewN | apply Chg.alloc)) (by simp)).chg hC7 (by simp)); clear hv7; have hv7 := hv9; clear hv9)); clear hC7))
              | (go_at_call 18; go_loud (refine (plain_ints a7 a8 _ c7 _ c8 L L _ rfl rfl (by omega) (by omega) (ReadsI.chg (S := []) hv7.out (by repeat (with_reducible first | exact Chg.refl _ _ | apply Chg.drew | apply Chg.drewN | apply Chg.alloc)) (by simp)) (ReadsI.chg (S := []) hv8.out (by repeat (with_reducible first | exact Chg.refl _ _ | apply Chg.drew | apply Chg.drewN | apply Chg.alloc)) (by simp))).mono ?_; rw [decide_self]; rintro e w9 ⟨rfl, c9, rfl⟩))
              | (go_at_call 20; go_loud (refine (HCN.out _ (hB.chg0 (by repeat (with_reducible first | exact Chg.refl _ _ | apply Chg.drew | apply Chg.drewN | apply Chg.alloc)))).mono ?_; rintro e w9 ⟨rfl, rfl⟩)))) | fail
              all_goals
                go_wp2_with fail
                go_roundg (zs.length - (k + 1))
                case measure => omega
                case rel => exact ⟨k + 1, now3, f3, by omega, by go_num, hB.chg0 (by repeat (with_reducible first | exact Chg.refl _ _ | apply Chg.drew | apply Chg.drewN | apply Chg.alloc))⟩
          · rw [show toOf n m f3 node = 0 by unfold toOf; rw [if_neg (by omega)], show toErr n node = 1 by unfold toErr; rw [if_neg hv]] at hct
            have hv' : node < 1 ∨ (1 ≤ node ∧ n < node) := by omega
            clear hv
            rcases hv' with h1 | ⟨h1, h2⟩
            · as_aux_lemma =>
              have x1 : ¬ 1 ≤ node := by omega
              go_wp2_with fail
              refine hct.mono ?_
              rintro e w7 ⟨rfl, rfl⟩
              clear hct
              go_upto_region 29 with fail
              refine wp_region_noPanic ?_
              refine wp_region_held_drew (S := fun w' => w'.cell? ⟨P, 1, none⟩ = some (.int .i64 node) ∧ w'.cell? ⟨p', 2, none⟩ = some (.int .i64 now3)) (by kernel_rfl) ⟨l1, v2⟩ (fun hHeld => ?_)
              refine wpAnyH_take (i := 0) (v := ?_) rfl (by kernel_rfl) (by kernel_rfl) (by kernel_rfl) (fun _ _ _ h => h) (Or.inl ⟨by rfl, ?_⟩) (by assumption) ?_
              rotate_left
              · intro w hSw
                (try dsimp only at hSw)
                go_simp
                all_goals (with_reducible rfl)
              try simp only [Act.put, List.getElem_toArray, List.getElem_cons_zero, List.getElem_cons_succ, List.setIfInBounds_toArray, List.set_cons_zero, List.set_cons_succ]
              refine wpAnyH_take (i := 1) (v := ?_) rfl (by kernel_rfl) (by kernel_rfl) (by kernel_rfl) (fun _ _ _ h => h) (Or.inl ⟨by rfl, ?_⟩) (by assumption) ?_
              rotate_left
              · intro w hSw
                (try dsimp only at hSw)
                go_simp
                all_goals (with_reducible rfl)
              try simp only [Act.put, List.getElem_toArray, List.getElem_cons_zero, List.getElem_cons_succ, List.setIfInBounds_toArray, List.set_cons_zero, List.set_cons_succ]
              refine wpAnyH_take (i := 2) (v := ?_) rfl (by kernel_rfl) (by kernel_rfl) (by kernel_rfl) (fun _ _ _ h => h) (Or.inl ⟨by rfl, ?_⟩) (by assumption) ?_
              rotate_left
              · intro w hSw
                (try dsimp only at hSw)
                go_simp
                all_goals (with_reducible rfl)
              try simp only [Act.put, List.getElem_toArray, List.getElem_cons_zero, List.getElem_cons_succ, List.setIfInBounds_toArray, List.set_cons_zero, List.set_cons_succ]
              refine wpAnyH_take (i := 3) (v := ?_) rfl (by kernel_rfl) (by kernel_rfl) (by kernel_rfl) (fun _ _ _ h => h) (Or.inl ⟨by rfl, ?_⟩) (by assumption) ?_
              rotate_left
              · intro w hSw
                (try dsimp only at hSw)
                go_simp
                all_goals (with_reducible rfl)
              try simp only [Act.put, List.getElem_toArray, List.getElem_cons_zero, List.getElem_cons_succ, List.setIfInBounds_toArray, List.set_cons_zero, List.set_cons_succ]
              refine wpAnyH_take (i := 4) (v := .bool false) rfl (by kernel_rfl) (by kernel_rfl) (by kernel_rfl) (fun _ _ _ h => h) (Or.inl ⟨by rfl, ?_⟩) (by assumption) ?_
              · intro w hSw
                (try dsimp only at hSw)
                go_simp
                all_goals (first | done | (simp; omega))
              try simp only [Act.put, List.getElem_toArray, List.getElem_cons_zero, List.getElem_cons_succ, List.setIfInBounds_toArray, List.set_cons_zero, List.set_cons_succ]
              refine wpAnyH_take (i := 5) (v := ?_) rfl (by kernel_rfl) (by kernel_rfl) (by kernel_rfl) (fun _ _ _ h => h) (Or.inl ⟨by rfl, ?_⟩) (by assumption) ?_
              rotate_left
              · intro w hSw
                (try dsimp only at hSw)
                go_simp
                all_goals (with_reducible rfl)
              try simp only [Act.put, List.getElem_toArray, List.getElem_cons_zero, List.getElem_cons_succ, List.setIfInBounds_toArray, List.set_cons_zero, List.set_cons_succ]
              refine wpAnyH_take (i := 6) (v := undef) rfl (by kernel_rfl) (by kernel_rfl) (by kernel_rfl) (fun _ _ _ h => h) (Or.inr ⟨by rfl, rfl⟩) (by assumption) ?_
              try simp only [Act.put, List.getElem_toArray, List.getElem_cons_zero, List.getElem_cons_succ, List.setIfInBounds_toArray, List.set_cons_zero, List.set_cons_succ]
              refine wpAnyH_take (i := 7) (v := undef) rfl (by kernel_rfl) (by kernel_rfl) (by kernel_rfl) (fun _ _ _ h => h) (Or.inr ⟨by rfl, rfl⟩) (by assumption) ?_
              try simp only [Act.put, List.getElem_toArray, List.getElem_cons_zero, List.getElem_cons_succ, List.setIfInBounds_toArray, List.set_cons_zero, List.set_cons_succ]
              refine wpAnyH_take (i := 8) (v := undef) rfl (by kernel_rfl) (by kernel_rfl) (by kernel_rfl) (fun _ _ _ h => h) (Or.inr ⟨by rfl, rfl⟩) (by assumption) ?_
              try simp only [Act.put, List.getElem_toArray, List.getElem_cons_zero, List.getElem_cons_succ, List.setIfInBounds_toArray, List.set_cons_zero, List.set_cons_succ]
              refine wpAnyH_take (i := 9) (v := undef) rfl (by kernel_rfl) (by kernel_rfl) (by kernel_rfl) (fun _ _ _ h => h) (Or.inr ⟨by rfl, rfl⟩) (by assumption) ?_
              try simp only [Act.put, List.getElem_toArray, List.getElem_cons_zero, List.getElem_cons_succ, List.setIfInBounds_toArray, List.set_cons_zero, List.set_cons_succ]
              refine wpAnyH_take (i := 10) (v := ?_) rfl (by kernel_rfl) (by kernel_rfl) (by kernel_rfl) (fun _ _ _ h => h) (Or.inl ⟨by rfl, ?_⟩) (by assumption) ?_
              rotate_left
              · intro w hSw
                (try dsimp only at hSw)
                go_simp
                all_goals (with_reducible rfl)
              try simp only [Act.put, List.getElem_toArray, List.getElem_cons_zero, List.getElem_cons_succ, List.setIfInBounds_toArray, List.set_cons_zero, List.set_cons_succ]
              refine wpAnyH_take (i := 11) (v := ?_) rfl (by kernel_rfl) (by kernel_rfl) (by kernel_rfl) (fun _ _ _ h => h) (Or.inl ⟨by rfl, ?_⟩) (by assumption) ?_
              rotate_left
              · intro w hSw
                (try dsimp only at hSw)
                go_simp
                all_goals (with_reducible rfl)
              try simp only [Act.put, List.getElem_toArray, List.getElem_cons_zero, List.getElem_cons_succ, List.setIfInBounds_toArray, List.set_cons_zero, List.set_cons_succ]
              refine wpAnyH_take (i := 12) (v := ?_) rfl (by kernel_rfl) (by kernel_rfl) (by kernel_rfl) (fun _ _ _ h => h) (Or.inl ⟨by rfl, ?_⟩) (by assumption) ?_
              rotate_left
              · intro w hSw
                (try dsimp only at hSw)
                go_simp
                all_goals (with_reducible rfl)
              try simp only [Act.put, List.getElem_toArray, List.getElem_cons_zero, List.getElem_cons_succ, List.setIfInBounds_toArray, List.set_cons_zero, List.set_cons_succ]
              refine wpAnyH_take (i := 13) (v := ?_) rfl (by kernel_rfl) (by kernel_rfl) (by kernel_rfl) (fun _ _ _ h => h) (Or.inl ⟨by rfl, ?_⟩) (by assumption) ?_
              rotate_left
              · intro w hSw
                (try dsimp only at hSw)
                go_simp
                all_goals (with_reducible rfl)
              try simp only [Act.put, List.getElem_toArray, List.getElem_cons_zero, List.getElem_cons_succ, List.setIfInBounds_toArray, List.set_cons_zero, List.set_cons_succ]
              refine wpAnyH_take (i := 14) (v := ?_) rfl (by kernel_rfl) (by kernel_rfl) (by kernel_rfl) (fun _ _ _ h => h) (Or.inl ⟨by rfl, ?_⟩) (by assumption) ?_
              rotate_left
              · intro w hSw
                (try dsimp only at hSw)
                go_simp
                all_goals (with_reducible rfl)
              try simp only [Act.put, List.getElem_toArray, List.getElem_cons_zero, List.getElem_cons_succ, List.setIfInBounds_toArray, List.set_cons_zero, List.set_cons_succ]
              refine wpAnyH_take (i := 15) (v := ?_) rfl (by kernel_rfl) (by kernel_rfl) (by kernel_rfl) (fun _ _ _ h => h) (Or.inl ⟨by rfl, ?_⟩) (by assumption) ?_
              rotate_left
              · intro w hSw
                (try dsimp only at hSw)
                go_simp
                all_goals (with_reducible rfl)
              try simp only [Act.put, List.getElem_toArray, List.getElem_cons_zero, List.getElem_cons_succ, List.setIfInBounds_toArray, List.set_cons_zero, List.set_cons_succ]
              refine wpAnyH_take (i := 16) (v := ?_) rfl (by kernel_rfl) (by kernel_rfl) (by kernel_rfl) (fun _ _ _ h => h) (Or.inl ⟨by rfl, ?_⟩) (by assumption) ?_
              rotate_left
              · intro w hSw
                (try dsimp only at hSw)
                go_simp
                all_goals (with_reducible rfl)
              try simp only [Act.put, List.getElem_toArray, List.getElem_cons_zero, List.getElem_cons_succ, List.setIfInBounds_toArray, List.set_cons_zero, List.set_cons_succ]
              refine wpAnyH_take (i := 17) (v := ?_) rfl (by kernel_rfl) (by kernel_rfl) (by kernel_rfl) (fun _ _ _ h => h) (Or.inl ⟨by rfl, ?_⟩) (by assumption) ?_
              rotate_left
              · intro w hSw
                (try dsimp only at hSw)
                go_simp
                all_goals (with_reducible rfl)
              try simp only [Act.put, List.getElem_toArray, List.getElem_cons_zero, List.getElem_cons_succ, List.setIfInBounds_toArray, List.set_cons_zero, List.set_cons_succ]
              refine wpAnyH_take (i := 18) (v := ?_) rfl (by kernel_rfl) (by kernel_rfl) (by kernel_rfl) (fun _ _ _ h => h) (Or.inl ⟨by rfl, ?_⟩) (by assumption) ?_
              rotate_left
              · intro w hSw
                (try dsimp only at hSw)
                go_simp
                all_goals (with_reducible rfl)
              try simp only [Act.put, List.getElem_toArray, List.getElem_cons_zero, List.getElem_cons_succ, List.setIfInBounds_toArray, List.set_cons_zero, List.set_cons_succ]
              refine wpAnyH_take (i := 20) (v := ?_) rfl (by kernel_rfl) (by kernel_rfl) (by kernel_rfl) (fun _ _ _ h => h) (Or.inl ⟨by rfl, ?_⟩) (by assumption) ?_
              rotate_left
              · intro w hSw
                (try dsimp only at hSw)
                go_simp
                all_goals (with_reducible rfl)
              try simp only [Act.put, List.getElem_toArray, List.getElem_cons_zero, List.getElem_cons_succ, List.setIfInBounds_toArray, List.set_cons_zero, List.set_cons_succ]
              refine wpAnyH_ready (rs := [19]) (by kernel_rfl) (by simp) ?_
              refine AllReadyH.cons rfl (fun K hK => ?_) AllReadyH.nil
              go_simp
              refine (HCS.out _ (hB.chg0 (by repeat (with_reducible first | exact Chg.refl _ _ | apply Chg.drew | apply Chg.drewN | apply Chg.alloc)))).mono ?_; rintro e w7 ⟨v7, rfl, hv7, hC7⟩; obtain ⟨a7, c7, rfl⟩ := own_shape hv7; have hB7 := (hB.chg0 (by repeat (with_reducible first | exact Chg.refl _ _ | apply Chg.drew | apply Chg.drewN | apply Chg.alloc))).chg0 hC7; have hL7 := Lib.hid (hC7.has (Chg.has (S := []) (by repeat (with_reducible first | exact Chg.refl _ _ | apply Chg.drew | apply Chg.drewN | apply Chg.alloc)) hLo.out (by simp)) (by simp)); clear hB hLo l1 v2; have hB := hB7; have hLo := hL7; clear hB7 hL7; have l1 := cell_of_has hLo.out 1; have v2 := cell_of_has hB.hR.hp 2; have hv7 := Lib.hid (own_readsI hv7).1; (try (have hv9 := Lib.hid ((ReadsI.chg (S := []) hv8.out (by repeat (with_reducible first | exact Chg.refl _ _ | apply Chg.drew | apply Chg.drewN | apply Chg.alloc)) (by simp)).chg hC7 (by simp)); clear hv8; have hv8 := hv9; clear hv9)); clear hC7
              go_wp2_with fail
              refine hK.out _ _ ⟨l1, v2⟩ (fun hHeld => ?_)
              clear hK K
              try simp only [Act.put, List.getElem_toArray, List.getElem_cons_zero, List.getElem_cons_succ, List.setIfInBounds_toArray, List.set_cons_zero, List.set_cons_succ]
              refine wpAnyH_ready (rs := [21]) (by kernel_rfl) (by simp) ?_
              refine AllReadyH.cons rfl (fun K hK => ?_) AllReadyH.nil
              go_simp
              refine (HCR.out _ (hB.chg0 (by repeat (with_reducible first | exact Chg.refl _ _ | apply Chg.drew | apply Chg.drewN | apply Chg.alloc)))).mono ?_; rintro e w8 ⟨v8, rfl, hv8, hC7⟩; obtain ⟨a8, c8, rfl⟩ := own_shape hv8; have hB7 := (hB.chg0 (by repeat (with_reducible first | exact Chg.refl _ _ | apply Chg.drew | apply Chg.drewN | apply Chg.alloc))).chg0 hC7; have hL7 := Lib.hid (hC7.has (Chg.has (S := []) (by repeat (with_reducible first | exact Chg.refl _ _ | apply Chg.drew | apply Chg.drewN | apply Chg.alloc)) hLo.out (by simp)) (by simp)); clear hB hLo l1 v2; have hB := hB7; have hLo := hL7; clear hB7 hL7; have l1 := cell_of_has hLo.out 1; have v2 := cell_of_has hB.hR.hp 2; have hv8 := Lib.hid (own_readsI hv8).1; (try (have hv9 := Lib.hid ((ReadsI.chg (S := []) hv7.out (by repeat (with_reducible first | exact Chg.refl _ _ | apply Chg.drew | apply Chg.drewN | apply Chg.alloc)) (by simp)).chg hC7 (by simp)); clear hv7; have hv7 := hv9; clear hv9)); clear hC7
              go_wp2_with fail
              refine hK.out _ _ ⟨l1, v2⟩ (fun hHeld => ?_)
              clear hK K
              try simp only [Act.put, List.getElem_toArray, List.getElem_cons_zero, List.getElem_cons_succ, List.setIfInBounds_toArray, List.set_cons_zero, List.set_cons_succ]
              refine wpAnyH_ready (rs := [22]) (by kernel_rfl) (by simp) ?_
              refine AllReadyH.cons rfl (fun K hK => ?_) AllReadyH.nil
              go_simp
              refine (plain_ints a7 a8 _ c7 _ c8 L L _ rfl rfl (by omega) (by omega) (ReadsI.chg (S := []) hv7.out (by repeat (with_reducible first | exact Chg.refl _ _ | apply Chg.drew | apply Chg.drewN | apply Chg.alloc)) (by simp)) (ReadsI.chg (S := []) hv8.out (by repeat (with_reducible first | exact Chg.refl _ _ | apply Chg.drew | apply Chg.drewN | apply Chg.alloc)) (by simp))).mono ?_; rw [decide_self]; rintro e w9 ⟨rfl, c9, rfl⟩
              go_wp2_with fail
              refine hK.out _ _ ⟨l1, v2⟩ (fun hHeld => ?_)
              clear hK K
              try simp only [Act.put, List.getElem_toArray, List.getElem_cons_zero, List.getElem_cons_succ, List.setIfInBounds_toArray, List.set_cons_zero, List.set_cons_succ]
              refine wpAnyH_take (i := 23) (v := ?_) rfl (by kernel_rfl) (by kernel_rfl) (by kernel_rfl) (fun _ _ _ h => h) (Or.inl ⟨by rfl, ?_⟩) (by assumption) ?_
              rotate_left
              · intro w hSw
                (try dsimp only at hSw)
                go_simp
                all_goals (with_reducible rfl)
              try simp only [Act.put, List.getElem_toArray, List.getElem_cons_zero, List.getElem_cons_succ, List.setIfInBounds_toArray, List.set_cons_zero, List.set_cons_succ]
              refine wpAnyH_take (i := 24) (v := ?_) rfl (by kernel_rfl) (by kernel_rfl) (by kernel_rfl) (fun _ _ _ h => h) (Or.inl ⟨by rfl, ?_⟩) (by assumption) ?_
              rotate_left
              · intro w hSw
                (try dsimp only at hSw)
                go_simp
                all_goals (with_reducible rfl)
              try simp only [Act.put, List.getElem_toArray, List.getElem_cons_zero, List.getElem_cons_succ, List.setIfInBounds_toArray, List.set_cons_zero, List.set_cons_succ]
              refine wpAnyH_take (i := 25) (v := ?_) rfl (by kernel_rfl) (by kernel_rfl) (by kernel_rfl) (fun _ _ _ h => h) (Or.inl ⟨by rfl, ?_⟩) (by assumption) ?_
              rotate_left
              · intro w hSw
                (try dsimp only at hSw)
                go_simp
                all_goals (with_reducible rfl)
              try simp only [Act.put, List.getElem_toArray, List.getElem_cons_zero, List.getElem_cons_succ, List.setIfInBounds_toArray, List.set_cons_zero, List.set_cons_succ]
              refine wpAnyH_take (i := 26) (v := ?_) rfl (by kernel_rfl) (by kernel_rfl) (by kernel_rfl) (fun _ _ _ h => h) (Or.inl ⟨by rfl, ?_⟩) (by assumption) ?_
              rotate_left
              · intro w hSw
                (try dsimp only at hSw)
                go_simp
                all_goals (with_reducible rfl)
              try simp only [Act.put, List.getElem_toArray, List.getElem_cons_zero, List.getElem_cons_succ, List.setIfInBounds_toArray, List.set_cons_zero, List.set_cons_succ]
              refine wpAnyH_take (i := 28) (v := ?_) rfl (by kernel_rfl) (by kernel_rfl) (by kernel_rfl) (fun _ _ _ h => h) (Or.inl ⟨by rfl, ?_⟩) (by assumption) ?_
              rotate_left
              · intro w hSw
                (try dsimp only at hSw)
                go_simp
                all_goals (with_reducible rfl)
              try simp only [Act.put, List.getElem_toArray, List.getElem_cons_zero, List.getElem_cons_succ, List.setIfInBounds_toArray, List.set_cons_zero, List.set_cons_succ]
              refine wpAnyH_take (i := 29) (v := ?_) rfl (by kernel_rfl) (by kernel_rfl) (by kernel_rfl) (fun _ _ _ h => h) (Or.inl ⟨by rfl, ?_⟩) (by assumption) ?_
              rotate_left
              · intro w hSw
                (try dsimp only at hSw)
                go_simp
                all_goals (with_reducible rfl)
              try simp only [Act.put, List.getElem_toArray, List.getElem_cons_zero, List.getElem_cons_succ, List.setIfInBounds_toArray, List.set_cons_zero, List.set_cons_succ]
              refine wpAnyH_take (i := 30) (v := ?_) rfl (by kernel_rfl) (by kernel_rfl) (by kernel_rfl) (fun _ _ _ h => h) (Or.inl ⟨by rfl, ?_⟩) (by assumption) ?_
              rotate_left
              · intro w hSw
                (try dsimp only at hSw)
                go_simp
                all_goals (with_reducible rfl)
              try simp only [Act.put, List.getElem_toArray, List.getElem_cons_zero, List.getElem_cons_succ, List.setIfInBounds_toArray, List.set_cons_zero, List.set_cons_succ]
              refine wpAnyH_take (i := 31) (v := ?_) rfl (by kernel_rfl) (by kernel_rfl) (by kernel_rfl) (fun _ _ _ h => h) (Or.inl ⟨by rfl, ?_⟩) (by assumption) ?_
              rotate_left
              · intro w hSw
                (try dsimp only at hSw)
                go_simp
                all_goals (with_reducible rfl)
              try simp only [Act.put, List.getElem_toArray, List.getElem_cons_zero, List.getElem_cons_succ, List.setIfInBounds_toArray, List.set_cons_zero, List.set_cons_succ]
              refine wpAnyH_ready (rs := [27]) (by kernel_rfl) (by simp) ?_
              refine AllReadyH.cons rfl (fun K hK => ?_) AllReadyH.nil
              go_simp
              refine (HCN.out _ (hB.chg0 (by repeat (with_reducible first | exact Chg.refl _ _ | apply Chg.drew | apply Chg.drewN | apply Chg.alloc)))).mono ?_; rintro e w9 ⟨rfl, rfl⟩
              go_wp2_with fail
              refine hK.out _ _ ⟨l1, v2⟩ (fun hHeld => ?_)
              clear hK K
              try simp only [Act.put, List.getElem_toArray, List.getElem_cons_zero, List.getElem_cons_succ, List.setIfInBounds_toArray, List.set_cons_zero, List.set_cons_succ]
              refine wpAnyH_take (i := 32) (v := ?_) rfl (by kernel_rfl) (by kernel_rfl) (by kernel_rfl) (fun _ _ _ h => h) (Or.inl ⟨by rfl, ?_⟩) (by assumption) ?_
              rotate_left
              · intro w hSw
                (try dsimp only at hSw)
                go_simp
                all_goals (with_reducible rfl)
              try simp only [Act.put, List.getElem_toArray, List.getElem_cons_zero, List.getElem_cons_succ, List.setIfInBounds_toArray, List.set_cons_zero, List.set_cons_succ]
              refine wpAnyH_take (i := 33) (v := ?_) rfl (by kernel_rfl) (by kernel_rfl) (by kernel_rfl) (fun _ _ _ h => h) (Or.inl ⟨by rfl, ?_⟩) (by assumption) ?_
              rotate_left
              · intro w hSw
                (try dsimp only at hSw)
                go_simp
                all_goals (with_reducible rfl)
              try simp only [Act.put, List.getElem_toArray, List.getElem_cons_zero, List.getElem_cons_succ, List.setIfInBounds_toArray, List.set_cons_zero, List.set_cons_succ]
              refine wpAnyH_done (by kernel_rfl) ?_ _
              refine NoPanic.normal ?_
              go_wp2_with fail
              go_roundg (zs.length - (k + 1))
              case measure => omega
              case rel => exact ⟨k + 1, now3, f3, by omega, by go_num, hB.chg0 (by repeat (with_reducible first | exact Chg.refl _ _ | apply Chg.drew | apply Chg.drewN | apply Chg.alloc))⟩
            · as_aux_lemma =>
              have x1 : decide (1 ≤ node) = true := by simp; omega
              have x2 : decide (node ≤ (n : Int)) = false := by simp; omega
              go_wp2_with fail
              refine hct.mono ?_
              rintro e w7 ⟨rfl, rfl⟩
              clear hct
              go_upto_region 29 with fail
              first | (go_region_held3 (fun w' => w'.cell? ⟨P, 1, none⟩ = some (.int .i64 node) ∧ w'.cell? ⟨p', 2, none⟩ = some (.int .i64 now3)) (first | exact ⟨l1, v2⟩ | go_keep) (first
              | (go_at_call 13; go_loud (refine (HCS.out _ (hB.chg0 (by repeat (with_reducible first | exact Chg.refl _ _ | apply Chg.drew | apply Chg.drewN | apply Chg.alloc)))).mono ?_; rintro e w7 ⟨v7, rfl, hv7, hC7⟩; obtain ⟨a7, c7, rfl⟩ := own_shape hv7; have hB7 := (hB.chg0 (by repeat (with_reducible first | exact Chg.refl _ _ | apply Chg.drew | apply Chg.drewN | apply Chg.alloc))).chg0 hC7; have hL7 := Lib.hid (hC7.has (Chg.has (S := []) (by repeat (with_reducible first | exact Chg.refl _ _ | apply Chg.drew | apply Chg.drewN | apply Chg.alloc)) hLo.out (by simp)) (by simp)); clear hB hLo l1 v2; have hB := hB7; have hLo := hL7; clear hB7 hL7; have l1 := cell_of_has hLo.out 1; have v2 := cell_of_has hB.hR.hp 2; have hv7 := Lib.hid (own_readsI hv7).1; (try (have hv9 := Lib.hid ((ReadsI.chg (S := []) hv8.out (by repeat (with_reducible first | exact Chg.refl _ _ | apply Chg.drew | apply Chg.drewN | apply Chg.alloc)) (by simp)).chg hC7 (by simp)); clear hv8; have hv8 := hv9; clear hv9)); clear hC7))
              | (go_at_call 19; go_loud (refine (HCR.out _ (hB.chg0 (by repeat (with_reducible first | exact Chg.refl _ _ | apply Chg.drew | apply Chg.drewN | apply Chg.alloc)))).mono ?_; rintro e w8 ⟨v8, rfl, hv8, hC7⟩; obtain ⟨a8, c8, rfl⟩ := own_shape hv8; have hB7 := (hB.chg0 (by repeat (with_reducible first | exact Chg.refl _ _ | apply Chg.drew | apply Chg.drewN | apply Chg.alloc))).chg0 hC7; have hL7 := Lib.hid (hC7.has (Chg.has (S := []) (by repeat (with_reducible first | exact Chg.refl _ _ | apply Chg.drew | apply Chg.drewN | apply Chg.alloc)) hLo.out (by simp)) (by simp)); clear hB hLo l1 v2; have hB := hB7; have hLo := hL7; clear hB7 hL7; have l1 := cell_of_has hLo.out 1; have v2 := cell_of_has hB.hR.hp 2; have hv8 := Lib.hid (own_readsI hv8).1; (try (have hv9 := Lib.hid ((ReadsI.chg (S := []) hv7.out (by repeat (with_reducible first | exact Chg.refl _ _ | apply Chg.drew | apply Chg.drewN | apply Chg.alloc)) (by simp)).chg hC7 (by simp)); clear hv7; have hv7 := hv9; clear hv9)); clear hC7))
              | (go_at_call 18; go_loud (refine (plain_ints a7 a8 _ c7 _ c8 L L _ rfl rfl (by omega) (by omega) (ReadsI.chg (S := []) hv7.out (by repeat (with_reducible first | exact Chg.refl _ _ | apply Chg.drew | apply Chg.drewN | apply Chg.alloc)) (by simp)) (ReadsI.chg (S := []) hv8.out (by repeat (with_reducible first | exact Chg.refl _ _ | apply Chg.drew | apply Chg.drewN | apply Chg.alloc)) (by simp))).mono ?_; rw [decide_self]; rintro e w9 ⟨rfl, c9, rfl⟩))
              | (go_at_call 20; go_loud (refine (HCN.out _ (hB.chg0 (by repeat (with_reducible first | exact Chg.refl _ _ | apply Chg.drew | apply Chg.drewN | apply Chg.alloc)))).mono ?_; rintro e w9 ⟨rfl, rfl⟩)))) | fail
              all_goals
                go_wp2_with fail
                go_roundg (zs.length - (k + 1))
                case measure => omega
                case rel => exact ⟨k + 1, now3, f3, by omega, by go_num, hB.chg0 (by repeat (with_reducible first | exact Chg.refl _ _ | apply Chg.drew | apply Chg.drewN | apply Chg.alloc))⟩
    · obtain rfl : zs.length = k := by omega
      have HC := Lib.hid hB.hC
      clear hB
      go_wp2_with fail
      refine (five_ok _).mono ?_
      rintro e w6 ⟨rfl, hC6⟩
      go_wp2_with fail
      go_ret
      exact ⟨rfl, (HC.out.trans hC6).below⟩

end Go.Proofs.Ytogianigkpldcaa
