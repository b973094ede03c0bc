/- The script of a text: the walk of the document's Parse. Printed by rparse.py. -/
import Derived.Test.YtkcfbacapaonaaaDoorWrT
namespace Go.Proofs.YtkcfbacapaonaaaDoor
set_option linter.unusedVariables false
set_option linter.unusedSimpArgs false
open Go.RowKit Go.Lib

set_option maxRecDepth 100000 in
set_option maxHeartbeats 32000000 in
theorem ref_parse (s : ByteArray) (hs : s.size ≤ 1000000) (w : World) (hg : GW w) : Calls Tryd.prog 13 #[.string s] w fun e w' => PsOut (parseS s.data.toList) e w' ∧ Chg [] w w' := by
  have hsz : s.data.toList.length = s.size := rfl
  obtain ⟨ls, hls⟩ : ∃ l, parts 10 s.data.toList = l := ⟨_, rfl⟩
  have hne : 0 < ls.length := by
    rw [← hls]
    exact List.length_pos_iff.2 (parts_ne _ _)
  have hlen : ∀ p ∈ ls, p.length ≤ 1000000 := fun p hp => by
    have := parts_len (c := 10) (s := s.data.toList) (p := p) (by rw [hls]; exact hp)
    omega
  have hll : ls.length ≤ 1000001 := by
    have := parts_count (c := 10) s.data.toList
    rw [hls, hsz] at this
    omega
  have hps : parseS s.data.toList = goS 0 Sc.zero ls := by unfold parseS; rw [hls]
  obtain ⟨b, hb⟩ : ∃ b, w.heap.size = b := ⟨_, rfl⟩
  obtain ⟨W1, hW1⟩ : ∃ W1, w.alloc (.cells #[.int .i64 0, .int .i64 0, .int .i64 0, .string ⟨#[]⟩, .slice none 0 0] 32) = W1 := ⟨_, rfl⟩
  have hX : W1.heap[b]? = some (.cells (scv Sc.zero (.slice none 0 0)) 32 (0, 0)) := by rw [← hW1, ← hb]; exact has_alloc_new _ _
  have hC1 : Chg [] w W1 := by rw [← hW1]; exact (Chg.refl _ _).alloc _
  have c1 := ref_split s 10 hs W1
  rw [hls] at c1
  have HX := Lib.hid hX; have HC1 := Lib.hid hC1; have HG := Lib.hid (hg.chg hC1); have HW1 := Lib.hid hW1; have Hb := Lib.hid hb; have C1 := Lib.hid c1
  have HLS := Lib.hid hls; have HLen := Lib.hid hlen; have HPS := Lib.hid hps
  clear hX hC1 hg hW1 hb c1 hls hlen hsz hps
  go_enter Tryd.func13, Tryd.ntmps13
  go_upto_region 1 with fail
  try rw [show (w.alloc (.cells #[.int .i64 0, .int .i64 0, .int .i64 0, .string ByteArray.empty, .slice none 0 0] 32)) = W1 from HW1.out]
  try rw [HW1.out]
  try rw [Hb.out]
  go_wp2_with fail
  refine C1.out.mono ?_
  rintro e w1 ⟨⟨bw, wcap, rfl, hRS⟩, hC⟩
  have HRS := Lib.hid hRS; have HC := Lib.hid (HC1.out.trans hC); have HX1 := Lib.hid (hC.has HX.out nmN); have HG1 := Lib.hid (HG.out.chg hC)
  clear hRS hC
  go_upto_region 3 with fail
  obtain ⟨bS, hbS⟩ : ∃ b, w1.heap.size = b := ⟨_, rfl⟩
  obtain ⟨W2, hW2⟩ : ∃ W2, w1.alloc (.cells #[.int .i64 0, .int .i64 0, .int .i64 0, .string ⟨#[]⟩, .slice none 0 0] 32) = W2 := ⟨_, rfl⟩
  have hY : W2.heap[bS]? = some (.cells (scv Sc.zero (.slice none 0 0)) 32 (0, 0)) := by rw [← hW2, ← hbS]; exact has_alloc_new _ _
  have hC2 : Chg [] w1 W2 := by rw [← hW2]; exact (Chg.refl _ _).alloc _
  have hle : w1.heap.size ≤ bS := Nat.le_of_eq hbS
  try rw [show w1.alloc (.cells #[.int .i64 0, .int .i64 0, .int .i64 0, .string ByteArray.empty, .slice none 0 0] 32) = W2 from hW2]
  try rw [hW2]
  try rw [hbS]
  have HY := Lib.hid hY; have HC2 := Lib.hid hC2; have HLe := Lib.hid hle
  have hbb := lt_of_has HX1.out
  clear hY hC2 hW2 hbS hle
  go_wp2_with fail
  go_loopg [7, 8, 9, 10, 11, 12, 18] ls.length (fun g _ _ _ _ _ _ i wr => ∃ (k n cap : Nat) (A : Option Addr) (sc : Sc), g + k = ls.length ∧ k < ls.length ∧ i = .int .i64 k ∧ wr.heap[bS]? = some (.cells (scv sc (.slice A n cap)) 32 (0, 0)) ∧
    wr.ownsRow w1.heap.size 61 6 (.slice A n cap) n (flatC sc.l) ∧ n = sc.l.length ∧ parseS s.data.toList = goS k sc (ls.drop k) ∧ (k = 0 → sc = Sc.zero ∧ A = none ∧ cap = 0) ∧ n ≤ 500 ∧ Chg [] w1 wr)
  case atStart => exact ⟨0, 0, 0, none, Sc.zero, rfl, hne, rfl, HY.out, World.ownsRow_nil _ _ _ _, rfl, HPS.out, fun _ => ⟨rfl, rfl, rfl⟩, Nat.zero_le _, HC2.out⟩
  case round =>
    obtain ⟨k, n, cap, A, sc, hk, hlt, rfl, hS, hown, hn, hgo, hz, h500, hCr⟩ := hrel
    obtain ⟨v, hv⟩ : ∃ v, ls[k] = v := ⟨_, rfl⟩
    have hdr : ls.drop k = v :: ls.drop (k + 1) := by rw [List.drop_eq_getElem_cons hlt, hv]
    rw [hdr] at hgo
    have hvl : v.length ≤ 1000000 := HLen.out v (by rw [← hv]; exact List.getElem_mem hlt)
    have q1 : w1.cell? ⟨bw, k, none⟩ = some (.string ⟨v.toArray⟩) := by
      have h := HRS.out.2 k v (by rw [List.getElem?_eq_getElem hlt, hv])
      rwa [Nat.zero_add] at h
    have q := hCr.cell q1 nmN
    have HS := Lib.hid hS; have HOwn := Lib.hid hown; have HN := Lib.hid hn; have HGo := Lib.hid hgo; have HZ0 := Lib.hid hz; have HCr := Lib.hid hCr; have HK := Lib.hid hk; have HVL := Lib.hid hvl
    have HGr := Lib.hid (HG1.out.chg hCr)
    have hne2 : ¬ b = bS := by have := HLe.out; omega
    clear hS hown hn hgo hz hCr hk hv hdr q1 hvl
    by_cases hlast : k + 1 = ls.length
    · have f1 : ((k : Int) == (ls.length : Int) - 1) = true := by rw [beq_iff_eq]; omega
      have hd1 : ls.drop (k + 1) = [] := List.drop_of_length_le (by omega)
      have HR0 := Lib.hid (show parseS s.data.toList = if 0 < k ∧ v = [] then (sc, 0, 0) else (Sc.zero, (k : Int) + 1, 4) by rw [HGo.out, hd1, goS_last])
      clear hd1
      by_cases hk0 : 0 < k
      · have f2 : decide ((0 : Int) < k) = true := decide_eq_true (by omega)
        by_cases hv0 : v = []
        · have HR := Lib.hid (show parseS s.data.toList = (sc, 0, 0) by rw [HR0.out, if_pos ⟨hk0, hv0⟩])
          have f3 : v.isEmpty = true := by rw [hv0]; rfl
          have HS5 := Lib.hid (HCr.out.has HX1.out nmN)
          obtain ⟨s0, s1, s2, s3, s4⟩ := sc_all HS.out
          obtain ⟨x0, x1, x2, x3, x4⟩ := sc_all HS5.out
          have z0 := sc_fz HS5.out 0; have z1 := sc_fz HS5.out 1; have z2 := sc_fz HS5.out 2; have z3 := sc_fz HS5.out 3; have z4 := sc_fz HS5.out 4
          clear hv0
          go_wp2_with fail
          obtain ⟨W6, hW6⟩ : ∃ W6, put5 wr b sc (.slice A n cap) = W6 := ⟨_, rfl⟩
          have hB6 : W6.heap[b]? = some (.cells (scv sc (.slice A n cap)) 32 (0, 0)) := by rw [← hW6]; exact put5_has HS5.out sc (.slice A n cap)
          have hCb : Chg [b] wr W6 := by rw [← hW6]; exact (Chg.refl _ _).put5 (Or.inl (by simp)) sc _
          have HCF := Lib.hid (show Chg [] w W6 by rw [← hW6]; exact (HC.out.trans HCr.out).put5 (Or.inr (Nat.le_of_eq Hb.out)) sc _)
          have HRd := Lib.hid (show ReadsC W6 A sc.l from (own_readsC HOwn.out).1.chg hCb (fun b' off e => by
            have := (HOwn.out.lt b' (by rw [e]; rfl)).1
            simp
            omega))
          obtain ⟨k0, k1, k2, k3, k4⟩ := sc_all hB6
          unfold put5 at hW6
          rw [hW6]
          clear hW6 hB6 hCb
          exact bodyPost_ret (v := .tuple #[.agg (scv sc (.slice A n cap)), .int .i64 0, .int .i64 0]) (by simp [results, Tryd.results13, go_sem, scv, k0, k1, k2, k3, k4]) rfl ⟨by rw [HR.out]; exact ⟨A, cap, by rw [← HN.out], HRd.out⟩, HCF.out⟩
        · have HR := Lib.hid (show parseS s.data.toList = (Sc.zero, (k : Int) + 1, 4) by rw [HR0.out, if_neg (fun h => hv0 h.2)])
          have f3 : v.isEmpty = false := by simpa using hv0
          have f3b : (v == []) = false := by simpa using hv0
          have HS5 := Lib.hid ((show Chg [] w1 wr from HCr.out).has HX1.out nmN)
          obtain ⟨x0, x1, x2, x3, x4⟩ := sc_all HS5.out
          have z0 := sc_fz HS5.out 0; have z1 := sc_fz HS5.out 1; have z2 := sc_fz HS5.out 2; have z3 := sc_fz HS5.out 3; have z4 := sc_fz HS5.out 4
          go_wp2_with fail
          obtain ⟨W6, hW6⟩ : ∃ W6, ((((wr.setCell ⟨b, 0, none⟩ (.int .i64 0)).setCell ⟨b, 1, none⟩ (.int .i64 0)).setCell ⟨b, 2, none⟩ (.int .i64 0)).setCell ⟨b, 3, none⟩ (.string ⟨#[]⟩)).setCell ⟨b, 4, none⟩ (.slice none 0 0) = W6 := ⟨_, rfl⟩
          have hB6 : W6.heap[b]? = some (.cells (scv Sc.zero (.slice none 0 0)) 32 (0, 0)) := by rw [← hW6]; exact put5_has HS5.out Sc.zero (.slice none 0 0)
          have HCF := Lib.hid (show Chg [] w W6 by rw [← hW6]; exact (HC.out.trans (HCr.out)).put5 (Or.inr (Nat.le_of_eq Hb.out)) Sc.zero (.slice none 0 0))
          obtain ⟨k0, k1, k2, k3, k4⟩ : W6.cell? ⟨b, 0, none⟩ = some (.int .i64 0) ∧ W6.cell? ⟨b, 1, none⟩ = some (.int .i64 0) ∧ W6.cell? ⟨b, 2, none⟩ = some (.int .i64 0) ∧ W6.cell? ⟨b, 3, none⟩ = some (.string ⟨#[]⟩) ∧ W6.cell? ⟨b, 4, none⟩ = some (.slice none 0 0) := sc_all hB6
          rw [hW6]
          clear hW6 hB6
          exact bodyPost_ret (v := .tuple #[.agg (scv Sc.zero (.slice none 0 0)), .int .i64 ((k : Int) + 1), .int .i64 4]) (by simp [results, Tryd.results13, go_sem, scv, Sc.zero, k0, k1, k2, k3, k4]) rfl ⟨by rw [HR.out]; exact ⟨none, 0, rfl, fun h => absurd h (by simp [Sc.zero])⟩, HCF.out⟩
      · have f2 : decide ((0 : Int) < k) = false := decide_eq_false (by omega)
        have HR := Lib.hid (show parseS s.data.toList = (Sc.zero, (k : Int) + 1, 4) by rw [HR0.out, if_neg (fun h => hk0 h.1)])
        have f2b : decide (0 < k) = false := decide_eq_false hk0
        have HS5 := Lib.hid ((show Chg [] w1 wr from HCr.out).has HX1.out nmN)
        obtain ⟨x0, x1, x2, x3, x4⟩ := sc_all HS5.out
        have z0 := sc_fz HS5.out 0; have z1 := sc_fz HS5.out 1; have z2 := sc_fz HS5.out 2; have z3 := sc_fz HS5.out 3; have z4 := sc_fz HS5.out 4
        go_wp2_with fail
        obtain ⟨W6, hW6⟩ : ∃ W6, ((((wr.setCell ⟨b, 0, none⟩ (.int .i64 0)).setCell ⟨b, 1, none⟩ (.int .i64 0)).setCell ⟨b, 2, none⟩ (.int .i64 0)).setCell ⟨b, 3, none⟩ (.string ⟨#[]⟩)).setCell ⟨b, 4, none⟩ (.slice none 0 0) = W6 := ⟨_, rfl⟩
        have hB6 : W6.heap[b]? = some (.cells (scv Sc.zero (.slice none 0 0)) 32 (0, 0)) := by rw [← hW6]; exact put5_has HS5.out Sc.zero (.slice none 0 0)
        have HCF := Lib.hid (show Chg [] w W6 by rw [← hW6]; exact (HC.out.trans (HCr.out)).put5 (Or.inr (Nat.le_of_eq Hb.out)) Sc.zero (.slice none 0 0))
        obtain ⟨k0, k1, k2, k3, k4⟩ : W6.cell? ⟨b, 0, none⟩ = some (.int .i64 0) ∧ W6.cell? ⟨b, 1, none⟩ = some (.int .i64 0) ∧ W6.cell? ⟨b, 2, none⟩ = some (.int .i64 0) ∧ W6.cell? ⟨b, 3, none⟩ = some (.string ⟨#[]⟩) ∧ W6.cell? ⟨b, 4, none⟩ = some (.slice none 0 0) := sc_all hB6
        rw [hW6]
        clear hW6 hB6
        exact bodyPost_ret (v := .tuple #[.agg (scv Sc.zero (.slice none 0 0)), .int .i64 ((k : Int) + 1), .int .i64 4]) (by simp [results, Tryd.results13, go_sem, scv, Sc.zero, k0, k1, k2, k3, k4]) rfl ⟨by rw [HR.out]; exact ⟨none, 0, rfl, fun h => absurd h (by simp [Sc.zero])⟩, HCF.out⟩
    · have f1 : ((k : Int) == (ls.length : Int) - 1) = false := by rw [beq_eq_false_iff_ne]; omega
      have hr : ls.drop (k + 1) ≠ [] := fun h => by
        have := congrArg List.length h
        rw [List.length_drop] at this
        simp at this
        omega
      have hlt2 : k + 1 < ls.length := by omega
      clear hlast
      by_cases hk0 : k = 0
      · obtain ⟨rfl, rfl, rfl⟩ := HZ0.out hk0
        have hn0 : n = 0 := HN.out
        subst hn0
        have f4 : ((k : Int) == 0) = true := by rw [beq_iff_eq]; omega
        have HGo0 := Lib.hid (show parseS s.data.toList = match headS v with | none => (Sc.zero, 1, 4) | some h => goS 1 h (ls.drop (k + 1)) by
          have h := HGo.out
          rw [hk0] at h
          rw [h, goS_head (by rw [← hk0]; exact hr)]
          rw [hk0]
          rfl)
        have Hk0 := Lib.hid hk0
        have cc := ref_head ⟨v.toArray⟩ HVL.out wr HGr.out
        rw [show (⟨v.toArray⟩ : ByteArray).data.toList = v from rfl] at cc
        cases hch : headS v with
        | none =>
          rw [hch] at cc
          have HR := Lib.hid (show parseS s.data.toList = (Sc.zero, 1, 4) by rw [HGo0.out, hch])
          have CC := Lib.hid cc
          clear cc hch hk0 hr
          go_wp2_with fail
          refine CC.out.mono ?_
          rintro e w5 ⟨⟨y5, rfl⟩, hC5⟩
          dsimp only [scv]
          have hA : Chg [] w1 (w5.alloc (.cells (scv y5 (.slice none 0 0)) 32)) := (HCr.out.trans hC5).alloc _
          obtain ⟨W7, hW7⟩ : ∃ W7, w5.alloc (.cells (scv y5 (.slice none 0 0)) 32) = W7 := ⟨_, rfl⟩
          rw [hW7] at hA
          have HC7 := Lib.hid hA; have HW7 := Lib.hid hW7
          clear hC5 hA hW7 q
          go_upto_region 12 with fail
          try rw [show w5.alloc (.cells #[.int .i64 y5.n, .int .i64 y5.f, .int .i64 y5.odd, .string ⟨y5.seed.toArray⟩, .slice none 0 0] 32) = W7 from HW7.out]
          try rw [HW7.out]
          have HS5 := Lib.hid ((show Chg [] w1 W7 from HC7.out).has HX1.out nmN)
          obtain ⟨x0, x1, x2, x3, x4⟩ := sc_all HS5.out
          have z0 := sc_fz HS5.out 0; have z1 := sc_fz HS5.out 1; have z2 := sc_fz HS5.out 2; have z3 := sc_fz HS5.out 3; have z4 := sc_fz HS5.out 4
          go_wp2_with fail
          obtain ⟨W6, hW6⟩ : ∃ W6, ((((W7.setCell ⟨b, 0, none⟩ (.int .i64 0)).setCell ⟨b, 1, none⟩ (.int .i64 0)).setCell ⟨b, 2, none⟩ (.int .i64 0)).setCell ⟨b, 3, none⟩ (.string ⟨#[]⟩)).setCell ⟨b, 4, none⟩ (.slice none 0 0) = W6 := ⟨_, rfl⟩
          have hB6 : W6.heap[b]? = some (.cells (scv Sc.zero (.slice none 0 0)) 32 (0, 0)) := by rw [← hW6]; exact put5_has HS5.out Sc.zero (.slice none 0 0)
          have HCF := Lib.hid (show Chg [] w W6 by rw [← hW6]; exact (HC.out.trans (HC7.out)).put5 (Or.inr (Nat.le_of_eq Hb.out)) Sc.zero (.slice none 0 0))
          obtain ⟨k0, k1, k2, k3, k4⟩ : W6.cell? ⟨b, 0, none⟩ = some (.int .i64 0) ∧ W6.cell? ⟨b, 1, none⟩ = some (.int .i64 0) ∧ W6.cell? ⟨b, 2, none⟩ = some (.int .i64 0) ∧ W6.cell? ⟨b, 3, none⟩ = some (.string ⟨#[]⟩) ∧ W6.cell? ⟨b, 4, none⟩ = some (.slice none 0 0) := sc_all hB6
          rw [hW6]
          clear hW6 hB6
          exact bodyPost_ret (v := .tuple #[.agg (scv Sc.zero (.slice none 0 0)), .int .i64 (1), .int .i64 4]) (by simp [results, Tryd.results13, go_sem, scv, Sc.zero, k0, k1, k2, k3, k4]) rfl ⟨by rw [HR.out]; exact ⟨none, 0, rfl, fun h => absurd h (by simp [Sc.zero])⟩, HCF.out⟩
        | some hd =>
          rw [hch] at cc
          have HR := Lib.hid (show parseS s.data.toList = goS 1 hd (ls.drop (k + 1)) by rw [HGo0.out, hch])
          have HL := Lib.hid (line_head hch)
          have CC := Lib.hid cc
          clear cc hch hk0 hr
          go_wp2_with fail
          refine CC.out.mono ?_
          rintro e w5 ⟨rfl, hC5⟩
          dsimp only [scv]
          have hA : Chg [] wr (w5.alloc (.cells (scv hd (.slice none 0 0)) 32)) := hC5.alloc _
          obtain ⟨bX, hbX⟩ : ∃ b, w5.heap.size = b := ⟨_, rfl⟩
          obtain ⟨W7, hW7⟩ : ∃ W7, w5.alloc (.cells (scv hd (.slice none 0 0)) 32) = W7 := ⟨_, rfl⟩
          have hBX : W7.heap[bX]? = some (.cells (scv hd (.slice none 0 0)) 32 (0, 0)) := by rw [← hW7, ← hbX]; exact has_alloc_new _ _
          rw [hW7] at hA
          have HC7 := Lib.hid (HCr.out.trans hA); have HW7 := Lib.hid hW7; have HbX := Lib.hid hbX; have HBX := Lib.hid hBX
          have HS7 := Lib.hid (hA.has HS.out nmN)
          clear hC5 hA hW7 hbX hBX q
          go_upto_region 12 with fail
          try rw [show w5.alloc (.cells #[.int .i64 hd.n, .int .i64 hd.f, .int .i64 hd.odd, .string ⟨hd.seed.toArray⟩, .slice none 0 0] 32) = W7 from HW7.out]
          try rw [HW7.out]
          try rw [HbX.out]
          obtain ⟨s0, s1, s2, s3, s4⟩ := sc_all HS7.out
          have z0 := sc_fz HS7.out 0; have z1 := sc_fz HS7.out 1; have z2 := sc_fz HS7.out 2; have z3 := sc_fz HS7.out 3; have z4 := sc_fz HS7.out 4
          obtain ⟨x0, x1, x2, x3, x4⟩ := sc_all HBX.out
          have HS9 := Lib.hid (put5_has HS7.out hd (.slice none 0 0))
          have HC9 := Lib.hid (HC7.out.put5 (Or.inr HLe.out) hd (.slice none 0 0))
          go_wp2_with fail
          go_roundg (ls.length - (k + 1))
          case measure => have := HK.out; omega
          case rel =>
            refine ⟨k + 1, 0, 0, none, hd, by have := HK.out; omega, by omega, by go_num, HS9.out, ?_, by rw [HL.out.2.2.2.2.1]; rfl, ?_, fun h => by omega, Nat.zero_le _, HC9.out⟩
            · rw [HL.out.2.2.2.2.1]; exact World.ownsRow_nil _ _ _ _
            · rw [HR.out, Hk0.out]
      · have hk1 : 0 < k := by omega
        clear hk0
        have f4 : ((k : Int) == 0) = false := by rw [beq_eq_false_iff_ne]; omega
        have HGo0 := Lib.hid (show parseS s.data.toList = match choiceS v with | none => (Sc.zero, (k : Int) + 1, 4) | some x => if 500 ≤ sc.l.length then (Sc.zero, (k : Int) + 1, 2) else goS (k + 1) { sc with l := sc.l ++ [x] } (ls.drop (k + 1)) by rw [HGo.out, goS_line hk1 hr]; rfl)
        have cc := ref_choice ⟨v.toArray⟩ HVL.out wr HGr.out
        rw [show (⟨v.toArray⟩ : ByteArray).data.toList = v from rfl] at cc
        cases hch : choiceS v with
        | none =>
          rw [hch] at cc
          have HR := Lib.hid (show parseS s.data.toList = (Sc.zero, (k : Int) + 1, 4) by rw [HGo0.out, hch])
          have CC := Lib.hid cc
          clear cc hch hk1 hr
          go_wp2_with fail
          refine CC.out.mono ?_
          rintro e w5 ⟨⟨y5, rfl⟩, hC5⟩
          dsimp only [cv]
          have hA : Chg [] w1 (w5.alloc (.cells (cv y5) 61)) := (HCr.out.trans hC5).alloc _
          obtain ⟨W7, hW7⟩ : ∃ W7, w5.alloc (.cells (cv y5) 61) = W7 := ⟨_, rfl⟩
          rw [hW7] at hA
          have HC7 := Lib.hid hA; have HW7 := Lib.hid hW7
          clear hC5 hA hW7 q
          go_upto_region 16 with fail
          try rw [show w5.alloc (.cells #[.int .i64 y5.kind, .int .i64 y5.node, .int .i64 y5.n, .int .i64 y5.id, .int .i64 y5.mask, .string ⟨y5.m.toArray⟩] 61) = W7 from HW7.out]
          try rw [HW7.out]
          have HS5 := Lib.hid ((show Chg [] w1 W7 from HC7.out).has HX1.out nmN)
          obtain ⟨x0, x1, x2, x3, x4⟩ := sc_all HS5.out
          have z0 := sc_fz HS5.out 0; have z1 := sc_fz HS5.out 1; have z2 := sc_fz HS5.out 2; have z3 := sc_fz HS5.out 3; have z4 := sc_fz HS5.out 4
          go_wp2_with fail
          obtain ⟨W6, hW6⟩ : ∃ W6, ((((W7.setCell ⟨b, 0, none⟩ (.int .i64 0)).setCell ⟨b, 1, none⟩ (.int .i64 0)).setCell ⟨b, 2, none⟩ (.int .i64 0)).setCell ⟨b, 3, none⟩ (.string ⟨#[]⟩)).setCell ⟨b, 4, none⟩ (.slice none 0 0) = W6 := ⟨_, rfl⟩
          have hB6 : W6.heap[b]? = some (.cells (scv Sc.zero (.slice none 0 0)) 32 (0, 0)) := by rw [← hW6]; exact put5_has HS5.out Sc.zero (.slice none 0 0)
          have HCF := Lib.hid (show Chg [] w W6 by rw [← hW6]; exact (HC.out.trans (HC7.out)).put5 (Or.inr (Nat.le_of_eq Hb.out)) Sc.zero (.slice none 0 0))
          obtain ⟨k0, k1, k2, k3, k4⟩ : W6.cell? ⟨b, 0, none⟩ = some (.int .i64 0) ∧ W6.cell? ⟨b, 1, none⟩ = some (.int .i64 0) ∧ W6.cell? ⟨b, 2, none⟩ = some (.int .i64 0) ∧ W6.cell? ⟨b, 3, none⟩ = some (.string ⟨#[]⟩) ∧ W6.cell? ⟨b, 4, none⟩ = some (.slice none 0 0) := sc_all hB6
          rw [hW6]
          clear hW6 hB6
          exact bodyPost_ret (v := .tuple #[.agg (scv Sc.zero (.slice none 0 0)), .int .i64 ((k : Int) + 1), .int .i64 4]) (by simp [results, Tryd.results13, go_sem, scv, Sc.zero, k0, k1, k2, k3, k4]) rfl ⟨by rw [HR.out]; exact ⟨none, 0, rfl, fun h => absurd h (by simp [Sc.zero])⟩, HCF.out⟩
        | some x =>
          rw [hch] at cc
          have HG5 := Lib.hid (show parseS s.data.toList = if 500 ≤ sc.l.length then (Sc.zero, (k : Int) + 1, 2) else goS (k + 1) { sc with l := sc.l ++ [x] } (ls.drop (k + 1)) by rw [HGo0.out, hch])
          have CC := Lib.hid cc
          clear cc hch hk1 hr
          go_wp2_with fail
          refine CC.out.mono ?_
          rintro e w5 ⟨rfl, hC5⟩
          dsimp only [cv]
          have hA : Chg [] wr (w5.alloc (.cells (cv x) 61)) := hC5.alloc _
          obtain ⟨bX, hbX⟩ : ∃ b, w5.heap.size = b := ⟨_, rfl⟩
          obtain ⟨W7, hW7⟩ : ∃ W7, w5.alloc (.cells (cv x) 61) = W7 := ⟨_, rfl⟩
          have hBX : CB W7 bX x := by rw [← hW7, ← hbX]; exact has_alloc_new _ _
          rw [hW7] at hA
          have HC7 := Lib.hid (HCr.out.trans hA); have HW7 := Lib.hid hW7; have HbX := Lib.hid hbX; have HBX := Lib.hid hBX
          have HS7 := Lib.hid (hA.has HS.out nmN); have HOwn7 := Lib.hid (own_chg (S := []) HOwn.out hA (by simp))
          clear hC5 hA hW7 hbX hBX q
          go_upto_region 16 with fail
          try rw [show w5.alloc (.cells #[.int .i64 x.kind, .int .i64 x.node, .int .i64 x.n, .int .i64 x.id, .int .i64 x.mask, .string ⟨x.m.toArray⟩] 61) = W7 from HW7.out]
          try rw [HW7.out]
          try rw [HbX.out]
          obtain ⟨s0, s1, s2, s3, s4⟩ := sc_all HS7.out
          by_cases hfull : n = 500
          · have f6 : decide ((500 : Int) ≤ n) = true := decide_eq_true (by omega)
            have f6b : decide (500 ≤ n) = true := decide_eq_true (by omega)
            have HR := Lib.hid (show parseS s.data.toList = (Sc.zero, (k : Int) + 1, 2) by rw [HG5.out, if_pos (by rw [← HN.out]; omega)])
            clear hfull
            have HS5 := Lib.hid ((show Chg [] w1 W7 from HC7.out).has HX1.out nmN)
            obtain ⟨x0, x1, x2, x3, x4⟩ := sc_all HS5.out
            have z0 := sc_fz HS5.out 0; have z1 := sc_fz HS5.out 1; have z2 := sc_fz HS5.out 2; have z3 := sc_fz HS5.out 3; have z4 := sc_fz HS5.out 4
            go_wp2_with fail
            obtain ⟨W6, hW6⟩ : ∃ W6, ((((W7.setCell ⟨b, 0, none⟩ (.int .i64 0)).setCell ⟨b, 1, none⟩ (.int .i64 0)).setCell ⟨b, 2, none⟩ (.int .i64 0)).setCell ⟨b, 3, none⟩ (.string ⟨#[]⟩)).setCell ⟨b, 4, none⟩ (.slice none 0 0) = W6 := ⟨_, rfl⟩
            have hB6 : W6.heap[b]? = some (.cells (scv Sc.zero (.slice none 0 0)) 32 (0, 0)) := by rw [← hW6]; exact put5_has HS5.out Sc.zero (.slice none 0 0)
            have HCF := Lib.hid (show Chg [] w W6 by rw [← hW6]; exact (HC.out.trans (HC7.out)).put5 (Or.inr (Nat.le_of_eq Hb.out)) Sc.zero (.slice none 0 0))
            obtain ⟨k0, k1, k2, k3, k4⟩ : W6.cell? ⟨b, 0, none⟩ = some (.int .i64 0) ∧ W6.cell? ⟨b, 1, none⟩ = some (.int .i64 0) ∧ W6.cell? ⟨b, 2, none⟩ = some (.int .i64 0) ∧ W6.cell? ⟨b, 3, none⟩ = some (.string ⟨#[]⟩) ∧ W6.cell? ⟨b, 4, none⟩ = some (.slice none 0 0) := sc_all hB6
            rw [hW6]
            clear hW6 hB6
            exact bodyPost_ret (v := .tuple #[.agg (scv Sc.zero (.slice none 0 0)), .int .i64 ((k : Int) + 1), .int .i64 2]) (by simp [results, Tryd.results13, go_sem, scv, Sc.zero, k0, k1, k2, k3, k4]) rfl ⟨by rw [HR.out]; exact ⟨none, 0, rfl, fun h => absurd h (by simp [Sc.zero])⟩, HCF.out⟩
          · have f6 : decide ((500 : Int) ≤ n) = false := decide_eq_false (by omega)
            have f6b : decide (500 ≤ n) = false := decide_eq_false (by omega)
            have HR := Lib.hid (show parseS s.data.toList = goS (k + 1) { sc with l := sc.l ++ [x] } (ls.drop (k + 1)) by rw [HG5.out, if_neg (by rw [← HN.out]; omega)])
            have HFull := Lib.hid hfull
            clear hfull
            obtain ⟨x0, x1, x2, x3, x4, x5⟩ := HBX.out.all
            have z4 := sc_fz HS7.out 4
            have hlt7 := lt_of_has HS7.out
            go_wp2_with (at_builtin; go_loud (refine wpList_push rfl _ _ 22 rfl elem_choice w1.heap.size rfl (HOwn7.out.alloc _) W7.heap.size (cv x) rfl rfl (has_alloc_new _ _) (by simp [cv, Value.oneCell']) (by omega) (by omega) (by have := HC7.out.size; simp; omega) ?_); intro v' w8 hown' hgrow _; obtain ⟨a8, cap8, rfl⟩ := own_shape hown'; have hS8 := grown_has hgrow (has_alloc HS7.out) (own_ne HOwn7.out HS7.out (by decide)); obtain ⟨s0, s1, s2, s3, s4⟩ := sc_all hS8; have z4 := sc_fz hS8 4; have HOwn8 := Lib.hid hown'; have HGrow := Lib.hid hgrow; have HS8 := Lib.hid hS8; clear hown' hgrow hS8)
            have hs9 := has_set HS8.out 4 (.slice a8 (n + 1) cap8)
            have hC9 : Chg [bS] w8 (w8.setCell ⟨bS, 4, none⟩ (.slice a8 (n + 1) cap8)) := (Chg.refl _ _).setCell (Or.inl (by simp)) _
            have hC10 : Chg [] w1 (w8.setCell ⟨bS, 4, none⟩ (.slice a8 (n + 1) cap8)) := ((HC7.out.alloc _).grown HGrow.out (fun b hb => Or.inr ((HOwn7.out.lt b hb).1))).setCell (Or.inr HLe.out) _
            have hne9 : ∀ b, (Value.slice a8 (n + 1) cap8).ownBlock = some b → b ∉ [bS] := fun b hb => by
              have h := own_ne HOwn8.out HS8.out (by decide)
              rw [hb] at h
              intro hm
              rw [List.mem_singleton.1 hm] at h
              exact h rfl
            have HOwn9 := Lib.hid (own_chg HOwn8.out hC9 hne9); have HS9 := Lib.hid hs9; have HC10 := Lib.hid hC10
            clear hs9 hC9 hC10 hne9
            go_roundg (ls.length - (k + 1))
            case measure => have := HK.out; omega
            case rel =>
              refine ⟨k + 1, n + 1, _, _, { sc with l := sc.l ++ [x] }, by have := HK.out; omega, by omega, by go_num, HS9.out, ?_, by have := HN.out; simp; omega, HR.out, fun h => by omega, by have := HFull.out; omega, HC10.out⟩
              show World.ownsRow _ _ _ _ _ _ (flatC (sc.l ++ [x]))
              rw [flatC_snoc]
              exact HOwn9.out

end Go.Proofs.YtkcfbacapaonaaaDoor
