/- BeatFew: the walk of the law. -/
import Derived.Test.YtogianigkpldcaaBeatK
namespace Go.Proofs.Ytogianigkpldcaa
set_option linter.unusedVariables false
set_option linter.unusedSimpArgs false
open Go.RowKit

theorem count_take_succ {L : List Int} {k : Nat} (h : k < L.length) (x : Int) : ((L.take (k + 1)).count x : Int) = (L.take k).count x + (if L.getD k 0 = x then 1 else 0) := by
  rw [take_snocI L k h, List.count_append, List.count_singleton]
  generalize L.getD k 0 = y
  by_cases e : y = x
  · subst e; simp
  · have : (y == x) = false := by simpa using e
    simp [this, e]

structure FI (wr W : World) (p q : Nat) (k : Nat) (now last told wn : Int) (f : Nat → Pr) : Prop where
  hW : WT wr p q 4 1 wn f
  hb : wn ≤ now ∧ now ≤ last + 64 ∧ last ≤ now ∧ 0 ≤ last ∧ now ≤ k * 100
  hl : (f 2).heard = last
  hf : Few (f 2) told
  hC : Chg [] W wr
  hpq : W.heap.size ≤ p ∧ W.heap.size ≤ q

set_option maxRecDepth 100000 in
set_option maxHeartbeats 4000000 in
theorem few_main (a : Option Addr) (cap : Nat) (zs : List St3) (W : World) (hR : ReadsT W a zs) (hz : zs.length ≤ 400) :
    Calls Try.prog 3 #[.slice a zs.length cap] W fun e w' => e = .returned (.bool true) ∧ Below W.heap.size W w' := by
  have HR := Lib.hid hR; clear hR
  have hz' : (zs.length : Int) ≤ 400 := by omega
  go_enter Try.func3, Try.ntmps3
  go_wp2_with fail
  refine (new_ok 4 1 0 _ ⟨by decide, by decide, by decide, by decide, by decide, by decide⟩).mono ?_
  rintro e w1 ⟨p, q, rfl, hp, hq, hW, hC⟩
  have HF0 := Lib.hid (show FI w1 W p q 0 0 0 0 0 (newF 0) from ⟨hW, ⟨by omega, by omega, by omega, by omega, by omega⟩, rfl, Or.inl ⟨rfl, Or.inl ⟨rfl, rfl⟩⟩, hC, ⟨hp, hq⟩⟩)
  clear hW hC hp hq
  go_wp2_with fail
  go_loopg [5, 6, 7, 44] zs.length (fun gk nw ls td i wr => ∃ (k : Nat) (now last told wn : Int) (f : Nat → Pr), gk + k = zs.length ∧ i = .int .i64 k ∧ nw = .int .i64 now ∧ ls = .int .i64 last ∧ td = .int .i64 told ∧ FI wr W p q k now last told wn f)
  case atStart => exact ⟨0, 0, 0, 0, 0, _, rfl, rfl, rfl, rfl, rfl, HF0.out⟩
  case round =>
    obtain ⟨k, now, last, told, wn, f, hk, rfl, rfl, rfl, rfl, hFI⟩ := hrel
    have hbd := hFI.hb
    obtain ⟨hb1, hb2, hb3, hb4, hb5⟩ := hbd
    by_cases hlt : k < zs.length
    · obtain ⟨b, off, hae, hb, hcell0⟩ := (HR.out.chg hFI.hC) (by omega)
      obtain ⟨x, hx⟩ : ∃ x, zs[k]? = some x := ⟨zs[k], List.getElem?_eq_getElem hlt⟩
      have hcell := hcell0 k x hx
      subst hae
      have g0 : wr.cell? ⟨b, off + k * 3, none⟩ = some (.int .i64 x.what) := hcell 0 (by omega)
      have g1 : wr.cell? ⟨b, off + k * 3 + 1, none⟩ = some (.int .i64 x.node) := hcell 1 (by omega)
      have g2 : wr.cell? ⟨b, off + k * 3 + 2, none⟩ = some (.int .i64 x.by_) := hcell 2 (by omega)
      have HFI := Lib.hid hFI
      clear hFI hcell hcell0 hx
      obtain ⟨what, node, by_⟩ := x
      simp only at g0 g1 g2
      go_upto_region 10 with fail
      obtain ⟨W1, hW1⟩ : ∃ W1, wr.alloc (.cells #[.int .i64 what, .int .i64 node, .int .i64 by_] 29) = W1 := ⟨_, rfl⟩
      have hC1 : Chg [] wr W1 := by rw [← hW1]; exact (Chg.refl _ _).alloc _
      have hq1 : W1.heap[wr.heap.size]? = some (.cells #[.int .i64 what, .int .i64 node, .int .i64 by_] 29 (0, 0)) := by rw [← hW1]; exact has_alloc_new _ _
      rw [hW1]
      have l0 : W1.cell? ⟨wr.heap.size, 0, none⟩ = some (.int .i64 what) := cell_of_has hq1 0
      have l1 : W1.cell? ⟨wr.heap.size, 1, none⟩ = some (.int .i64 node) := cell_of_has hq1 1
      have l2 : W1.cell? ⟨wr.heap.size, 2, none⟩ = some (.int .i64 by_) := cell_of_has hq1 2
      have HC1 := Lib.hid hC1; have HQ1 := Lib.hid hq1
      clear hC1 hq1 hW1 g0 g1 g2
      by_cases hin : 0 ≤ by_ ∧ by_ ≤ 100
      · obtain ⟨hi1, hi2⟩ := hin
        by_cases hcap : now + by_ ≤ last + 64
        · obtain ⟨N2, hN2⟩ : ∃ N2, now + by_ = N2 := ⟨_, rfl⟩
          have hA1 : now ≤ N2 := by omega
          have hA2 : N2 ≤ last + 64 := by omega
          have hA3 : N2 ≤ 40100 := by omega
          have hA4 : N2 ≤ (k + 1 : Nat) * 100 := by omega
          clear hcap
          by_cases hw : what = 2
          · have t0 : (what == 2) = true := by simp [hw]
            clear hw
            go_wp2_with fail
            refine (check_ok p q 4 1 wn f N2 _ (HFI.out.hW.chg0 HC1.out) (by omega) (by omega)).mono ?_
            rintro e w2 ⟨v, rfl, hown, hW2, hC2⟩
            have hfew := HFI.out.hf.check (now := N2) (by rw [HFI.out.hl]; omega)
            have hcle : ∀ j, ((lates 4 1 N2 f).take j).count 2 ≤ (lates 4 1 N2 f).count 2 := fun j => List.Sublist.count_le _ (List.take_sublist _ _)
            have hhl := sil_heard f (lates 4 1 N2 f) 2
            obtain ⟨L, hL⟩ : ∃ L, lates 4 1 N2 f = L := ⟨_, rfl⟩
            rw [hL] at hown hW2 hfew hcle hhl
            obtain ⟨a2, c2, rfl⟩ := own_shape hown
            have hlen : L.length ≤ 5 := by rw [← hL]; exact oth_len _ _ _
            have htd := hfew.bd
            have htd0 := HFI.out.hf.bd
            obtain ⟨hr2, _⟩ := own_readsI hown
            have hC12 : Chg [] W w2 := (HFI.out.hC.trans HC1.out).trans_new hC2 (by have := HFI.out.hpq; simp; omega)
            have HF := Lib.hid hfew; have HL := Lib.hid hcle; have HH := Lib.hid hhl; have HW2 := Lib.hid hW2; have HC12 := Lib.hid hC12; have HR2 := Lib.hid hr2
            clear hfew hhl hW2 hC2 hC12 hr2 hown hL
            go_wp2_with fail
            go_loop [7, 80] (fun td i => ∃ j : Nat, j ≤ L.length ∧ i = .int .i64 j ∧ td = .int .i64 (told + ((L.take j).count 2 : Nat))) (fun _ i => L.length - (intOf i).toNat)
            case atStart => exact ⟨0, by omega, rfl, by simp⟩
            case round =>
              obtain ⟨j, hj, rfl, rfl⟩ := hrel
              by_cases hjl : j < L.length
              · obtain ⟨b2, off2, rfl, hb2, hcell2⟩ := HR2.out (by omega)
                have hx := hcell2 j hjl
                have hcs := count_take_succ hjl 2
                have hc1 := HL.out (j + 1)
                obtain ⟨y, hy⟩ : ∃ y, L.getD j 0 = y := ⟨_, rfl⟩
                rw [hy] at hx hcs
                clear hcell2 hy hcle
                by_cases hy2 : y = 2
                · have t1 : (y == 2) = true := by simp [hy2]
                  rw [if_pos hy2] at hcs
                  obtain ⟨c0, hc0⟩ : ∃ c0, (L.take j).count 2 = c0 := ⟨_, rfl⟩
                  obtain ⟨c3, hc3⟩ : ∃ c3, (L.take (j + 1)).count 2 = c3 := ⟨_, rfl⟩
                  obtain ⟨c4, hc4⟩ : ∃ c4, L.count 2 = c4 := ⟨_, rfl⟩
                  rw [hc0, hc3] at hcs
                  rw [hc3, hc4] at hc1
                  rw [hc4] at htd
                  rw [hc0]
                  have HC3 := Lib.hid hc3
                  clear hc0 hc3 hc4 hy2
                  go_wp2_with fail
                  refine ⟨⟨j+1, by omega, by go_num, ?_⟩, by simp [intOf]; omega⟩
                  rw [HC3.out]; first | (congr 1; done) | (congr 1; omega)
                · have t1 : (y == 2) = false := by simp [hy2]
                  rw [if_neg hy2] at hcs
                  have HCS := Lib.hid hcs
                  clear hy2 hcs
                  go_wp2_with fail
                  refine ⟨⟨j+1, by omega, by go_num, ?_⟩, by simp [intOf]; omega⟩
                  rw [HCS.out]; first | (congr 1; done) | (congr 1; omega)
              · obtain rfl : L.length = j := by omega
                rw [List.take_length]
                have HTD := Lib.hid htd
                clear htd hcle
                go_wp2_with fail
                go_roundg (zs.length - (k + 1))
                case measure => omega
                case rel => exact ⟨k + 1, N2, last, told + (L.count 2 : Nat), N2, sil f L, by omega, by go_num, rfl, rfl, rfl, HW2.out, ⟨by omega, by omega, by omega, by omega, by omega⟩, (by rw [HH.out]; exact HFI.out.hl), HF.out, HC12.out, HFI.out.hpq⟩
          · have t0 : (what == 2) = false := by simp [hw]
            clear hw
            by_cases hn : N2 = last + 64
            · have t1 : (N2 == last + 64) = true := by simp [hn]
              clear hn
              go_wp2_with fail
              refine (heard_ok p q 4 1 wn f 2 N2 _ (HFI.out.hW.chg0 HC1.out) (by omega) (by omega) (by omega) (by omega)).mono ?_
              rintro e w2 ⟨rfl, hW2, hC2⟩
              have hfew := HFI.out.hf.heard 2 N2
              have hhl := heardF_heard f 2 N2
              have hC12 : Chg [] W w2 := (HFI.out.hC.trans HC1.out).trans_new hC2 (by have := HFI.out.hpq; simp; omega)
              have HF := Lib.hid hfew; have HH := Lib.hid hhl; have HW2 := Lib.hid hW2; have HC12 := Lib.hid hC12
              clear hfew hhl hW2 hC2 hC12
              obtain ⟨sb, hsb⟩ : ∃ sb, (f 2).silent = sb := ⟨_, rfl⟩
              rw [hsb]
              clear hsb
              go_wp2_with fail
              go_roundg (zs.length - (k + 1))
              case measure => omega
              case rel => exact ⟨k + 1, N2, N2, told, N2, heardF f 2 N2, by omega, by go_num, rfl, rfl, rfl, HW2.out, ⟨by omega, by omega, by omega, by omega, by omega⟩, (by rw [HH.out]; rfl), HF.out, HC12.out, HFI.out.hpq⟩
            · have t1 : (N2 == last + 64) = false := by simp [hn]
              by_cases hn2 : node = 2
              · subst hn2
                clear hn
                go_wp2_with fail
                refine (heard_ok p q 4 1 wn f 2 N2 _ (HFI.out.hW.chg0 HC1.out) (by omega) (by omega) (by omega) (by omega)).mono ?_
                rintro e w2 ⟨rfl, hW2, hC2⟩
                have hfew := HFI.out.hf.heard 2 N2
                have hhl := heardF_heard f 2 N2
                have hC12 : Chg [] W w2 := (HFI.out.hC.trans HC1.out).trans_new hC2 (by have := HFI.out.hpq; simp; omega)
                have HF := Lib.hid hfew; have HH := Lib.hid hhl; have HW2 := Lib.hid hW2; have HC12 := Lib.hid hC12
                clear hfew hhl hW2 hC2 hC12
                obtain ⟨sb, hsb⟩ : ∃ sb, (f 2).silent = sb := ⟨_, rfl⟩
                rw [hsb]
                clear hsb
                go_wp2_with fail
                go_roundg (zs.length - (k + 1))
                case measure => omega
                case rel => exact ⟨k + 1, N2, N2, told, N2, heardF f 2 N2, by omega, by go_num, rfl, rfl, rfl, HW2.out, ⟨by omega, by omega, by omega, by omega, by omega⟩, (by rw [HH.out]; rfl), HF.out, HC12.out, HFI.out.hpq⟩
              · have t2 : (node == 2) = false := by simp [hn2]
                by_cases hv : 1 ≤ node ∧ node ≤ 4
                · obtain ⟨m, rfl⟩ : ∃ m : Nat, node = m := ⟨node.toNat, by omega⟩
                  obtain ⟨hv1, hv2⟩ := hv
                  clear hn
                  go_wp2_with fail
                  refine (heard_ok p q 4 1 wn f m N2 _ (HFI.out.hW.chg0 HC1.out) (by omega) (by omega) (by omega) (by omega)).mono ?_
                  rintro e w2 ⟨rfl, hW2, hC2⟩
                  have hfew := HFI.out.hf.heard m N2
                  have hhl := heardF_heard f m N2
                  have hC12 : Chg [] W w2 := (HFI.out.hC.trans HC1.out).trans_new hC2 (by have := HFI.out.hpq; simp; omega)
                  have HF := Lib.hid hfew; have HH := Lib.hid hhl; have HW2 := Lib.hid hW2; have HC12 := Lib.hid hC12
                  clear hfew hhl hW2 hC2 hC12
                  obtain ⟨sb, hsb⟩ : ∃ sb, (f m).silent = sb := ⟨_, rfl⟩
                  rw [hsb]
                  clear hsb
                  go_wp2_with fail
                  go_roundg (zs.length - (k + 1))
                  case measure => omega
                  case rel => exact ⟨k + 1, N2, last, told, N2, heardF f m N2, by omega, by go_num, rfl, rfl, rfl, HW2.out, ⟨by omega, by omega, by omega, by omega, by omega⟩, (by rw [HH.out, if_neg (by omega)]; exact HFI.out.hl), HF.out, HC12.out, HFI.out.hpq⟩
                · have hv' : node < 1 ∨ (1 ≤ node ∧ 4 < node) := by omega
                  clear hv hn hn2
                  rcases hv' with hv1 | ⟨hv1, hv2⟩
                  · go_wp2_with fail
                    refine (heard_bad p q 4 1 wn f node N2 _ (HFI.out.hW.chg0 HC1.out) (by omega)).mono ?_
                    rintro e w2 ⟨rfl, rfl⟩
                    go_wp2_with fail
                    go_roundg (zs.length - (k + 1))
                    case measure => omega
                    case rel => exact ⟨k + 1, N2, last, told, wn, f, by omega, by go_num, rfl, rfl, rfl, HFI.out.hW.chg0 HC1.out, ⟨by omega, by omega, by omega, by omega, by omega⟩, HFI.out.hl, HFI.out.hf, HFI.out.hC.trans HC1.out, HFI.out.hpq⟩
                  · go_wp2_with fail
                    refine (heard_bad p q 4 1 wn f node N2 _ (HFI.out.hW.chg0 HC1.out) (by omega)).mono ?_
                    rintro e w2 ⟨rfl, rfl⟩
                    go_wp2_with fail
                    go_roundg (zs.length - (k + 1))
                    case measure => omega
                    case rel => exact ⟨k + 1, N2, last, told, wn, f, by omega, by go_num, rfl, rfl, rfl, HFI.out.hW.chg0 HC1.out, ⟨by omega, by omega, by omega, by omega, by omega⟩, HFI.out.hl, HFI.out.hf, HFI.out.hC.trans HC1.out, HFI.out.hpq⟩
        · obtain ⟨N2, hN2⟩ : ∃ N2, last + 64 = N2 := ⟨_, rfl⟩
          have hA1 : now ≤ N2 := by omega
          have hA2 : N2 ≤ last + 64 := by omega
          have hA3 : N2 ≤ 40100 := by omega
          have hA4 : N2 ≤ (k + 1 : Nat) * 100 := by omega
          have hA5 : N2 < now + by_ := by omega
          clear hcap
          by_cases hw : what = 2
          · have t0 : (what == 2) = true := by simp [hw]
            clear hw
            go_wp2_with fail
            refine (check_ok p q 4 1 wn f N2 _ (HFI.out.hW.chg0 HC1.out) (by omega) (by omega)).mono ?_
            rintro e w2 ⟨v, rfl, hown, hW2, hC2⟩
            have hfew := HFI.out.hf.check (now := N2) (by rw [HFI.out.hl]; omega)
            have hcle : ∀ j, ((lates 4 1 N2 f).take j).count 2 ≤ (lates 4 1 N2 f).count 2 := fun j => List.Sublist.count_le _ (List.take_sublist _ _)
            have hhl := sil_heard f (lates 4 1 N2 f) 2
            obtain ⟨L, hL⟩ : ∃ L, lates 4 1 N2 f = L := ⟨_, rfl⟩
            rw [hL] at hown hW2 hfew hcle hhl
            obtain ⟨a2, c2, rfl⟩ := own_shape hown
            have hlen : L.length ≤ 5 := by rw [← hL]; exact oth_len _ _ _
            have htd := hfew.bd
            have htd0 := HFI.out.hf.bd
            obtain ⟨hr2, _⟩ := own_readsI hown
            have hC12 : Chg [] W w2 := (HFI.out.hC.trans HC1.out).trans_new hC2 (by have := HFI.out.hpq; simp; omega)
            have HF := Lib.hid hfew; have HL := Lib.hid hcle; have HH := Lib.hid hhl; have HW2 := Lib.hid hW2; have HC12 := Lib.hid hC12; have HR2 := Lib.hid hr2
            clear hfew hhl hW2 hC2 hC12 hr2 hown hL
            go_wp2_with fail
            go_loop [7, 80] (fun td i => ∃ j : Nat, j ≤ L.length ∧ i = .int .i64 j ∧ td = .int .i64 (told + ((L.take j).count 2 : Nat))) (fun _ i => L.length - (intOf i).toNat)
            case atStart => exact ⟨0, by omega, rfl, by simp⟩
            case round =>
              obtain ⟨j, hj, rfl, rfl⟩ := hrel
              by_cases hjl : j < L.length
              · obtain ⟨b2, off2, rfl, hb2, hcell2⟩ := HR2.out (by omega)
                have hx := hcell2 j hjl
                have hcs := count_take_succ hjl 2
                have hc1 := HL.out (j + 1)
                obtain ⟨y, hy⟩ : ∃ y, L.getD j 0 = y := ⟨_, rfl⟩
                rw [hy] at hx hcs
                clear hcell2 hy hcle
                by_cases hy2 : y = 2
                · have t1 : (y == 2) = true := by simp [hy2]
                  rw [if_pos hy2] at hcs
                  obtain ⟨c0, hc0⟩ : ∃ c0, (L.take j).count 2 = c0 := ⟨_, rfl⟩
                  obtain ⟨c3, hc3⟩ : ∃ c3, (L.take (j + 1)).count 2 = c3 := ⟨_, rfl⟩
                  obtain ⟨c4, hc4⟩ : ∃ c4, L.count 2 = c4 := ⟨_, rfl⟩
                  rw [hc0, hc3] at hcs
                  rw [hc3, hc4] at hc1
                  rw [hc4] at htd
                  rw [hc0]
                  have HC3 := Lib.hid hc3
                  clear hc0 hc3 hc4 hy2
                  go_wp2_with fail
                  refine ⟨⟨j+1, by omega, by go_num, ?_⟩, by simp [intOf]; omega⟩
                  rw [HC3.out]; first | (congr 1; done) | (congr 1; omega)
                · have t1 : (y == 2) = false := by simp [hy2]
                  rw [if_neg hy2] at hcs
                  have HCS := Lib.hid hcs
                  clear hy2 hcs
                  go_wp2_with fail
                  refine ⟨⟨j+1, by omega, by go_num, ?_⟩, by simp [intOf]; omega⟩
                  rw [HCS.out]; first | (congr 1; done) | (congr 1; omega)
              · obtain rfl : L.length = j := by omega
                rw [List.take_length]
                have HTD := Lib.hid htd
                clear htd hcle
                go_wp2_with fail
                go_roundg (zs.length - (k + 1))
                case measure => omega
                case rel => exact ⟨k + 1, N2, last, told + (L.count 2 : Nat), N2, sil f L, by omega, by go_num, rfl, rfl, rfl, HW2.out, ⟨by omega, by omega, by omega, by omega, by omega⟩, (by rw [HH.out]; exact HFI.out.hl), HF.out, HC12.out, HFI.out.hpq⟩
          · have t0 : (what == 2) = false := by simp [hw]
            clear hw
            go_wp2_with fail
            refine (heard_ok p q 4 1 wn f 2 N2 _ (HFI.out.hW.chg0 HC1.out) (by omega) (by omega) (by omega) (by omega)).mono ?_
            rintro e w2 ⟨rfl, hW2, hC2⟩
            have hfew := HFI.out.hf.heard 2 N2
            have hhl := heardF_heard f 2 N2
            have hC12 : Chg [] W w2 := (HFI.out.hC.trans HC1.out).trans_new hC2 (by have := HFI.out.hpq; simp; omega)
            have HF := Lib.hid hfew; have HH := Lib.hid hhl; have HW2 := Lib.hid hW2; have HC12 := Lib.hid hC12
            clear hfew hhl hW2 hC2 hC12
            obtain ⟨sb, hsb⟩ : ∃ sb, (f 2).silent = sb := ⟨_, rfl⟩
            rw [hsb]
            clear hsb
            go_wp2_with fail
            go_roundg (zs.length - (k + 1))
            case measure => omega
            case rel => exact ⟨k + 1, N2, N2, told, N2, heardF f 2 N2, by omega, by go_num, rfl, rfl, rfl, HW2.out, ⟨by omega, by omega, by omega, by omega, by omega⟩, (by rw [HH.out]; rfl), HF.out, HC12.out, HFI.out.hpq⟩
      · have hin' : by_ < 0 ∨ (0 ≤ by_ ∧ 100 < by_) := by omega
        clear hin
        rcases hin' with h1 | ⟨h1, h2⟩
        · go_wp2_with fail
          go_roundg (zs.length - (k + 1))
          case measure => omega
          case rel => exact ⟨k + 1, now, last, told, wn, f, by omega, by go_num, rfl, rfl, rfl, HFI.out.hW.chg0 HC1.out, ⟨hb1, hb2, hb3, hb4, by omega⟩, HFI.out.hl, HFI.out.hf, HFI.out.hC.trans HC1.out, HFI.out.hpq⟩
        · go_wp2_with fail
          go_roundg (zs.length - (k + 1))
          case measure => omega
          case rel => exact ⟨k + 1, now, last, told, wn, f, by omega, by go_num, rfl, rfl, rfl, HFI.out.hW.chg0 HC1.out, ⟨hb1, hb2, hb3, hb4, by omega⟩, HFI.out.hl, HFI.out.hf, HFI.out.hC.trans HC1.out, HFI.out.hpq⟩
    · obtain rfl : zs.length = k := by omega
      have htd := hFI.hf.bd
      have HC := Lib.hid hFI.hC
      clear hFI
      go_wp2_with fail
      refine (five_ok _).mono ?_
      rintro e w6 ⟨rfl, hC6⟩
      go_wp2_with fail
      go_ret
      exact ⟨rfl, (HC.out.trans hC6).below⟩

set_option maxRecDepth 100000 in
theorem few_any (a : Option Addr) (cap : Nat) (zs : List St3) (W : World) (hR : ReadsT W a zs) :
    Calls Try.prog 3 #[.slice a zs.length cap] W fun e w' => e = .returned (.bool true) ∧ Below W.heap.size W w' := by
  by_cases hz : zs.length ≤ 400
  · exact few_main a cap zs W hR hz
  · clear hR
    have h1 : 400 < (zs.length : Int) := by omega
    go_enter Try.func3, Try.ntmps3
    go_wp2_with fail
    refine (new_ok 4 1 0 _ ⟨by decide, by decide, by decide, by decide, by decide, by decide⟩).mono ?_
    rintro e w1 ⟨p, q, rfl, hp, hq, hW, hC⟩
    have HC := Lib.hid hC; clear hC hW
    go_wp2_with fail
    refine (five_ok _).mono ?_
    rintro e w3 ⟨rfl, hC3⟩
    go_wp2_with fail
    go_ret
    exact ⟨rfl, (HC.out.trans hC3).below⟩

section
open Go.WideShapes Go.ChangeShapes
variable {H : Type} (enc : TypeId × Value → H) (W : World)

theorem beatFew_law {v0 : Value} {d0 : DataW H} {p0 : List MemPlace} {base : Nat}
    (h0 : DataW.Trod enc Try.prog W 0 (fun _ => true) true 22 v0 d0 p0) (k0 : Value.okWide Try.prog W .any base 22 v0)
    (_hsz : (DataW.weightsEach Try.prog [22] [d0]).all (· ≤ reachBytes) = true) :
    Calls Try.prog 3 #[v0] W fun e w' => e = .returned (.bool true) ∧ Below W.heap.size W w' := by
  obtain ⟨n0, g0⟩ := h0
  obtain ⟨a0, len0, cap0, rfl⟩ := okWide_slice Try.underlying22 k0
  obtain ⟨A, c, zs, hv, hz, hR⟩ := open_steps g0
  injection hv with e1 e2 e3
  subst e1; subst e2; subst e3
  exact few_any _ _ zs W hR

end

end Go.Proofs.Ytogianigkpldcaa
