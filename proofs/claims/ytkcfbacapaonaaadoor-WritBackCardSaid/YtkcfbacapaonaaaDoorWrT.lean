/- The script of a text: the walk of writ.Parse. Printed by parsep.py. -/
import Derived.Test.YtkcfbacapaonaaaDoorWrS
namespace Go.Proofs.YtkcfbacapaonaaaDoor
set_option linter.unusedVariables false
set_option linter.unusedSimpArgs false
open Go.RowKit Go.Lib

/-- Choices' cells, one behind the other. -/
def flatC (xs : List Ch) : List Value := xs.flatMap fun x => (cv x).toList
theorem flatC_snoc (xs : List Ch) (x : Ch) : flatC (xs ++ [x]) = flatC xs ++ (cv x).toList := by simp [flatC]
theorem flatC_at : ∀ {xs : List Ch} {i : Nat} {x : Ch}, xs[i]? = some x → ∀ c, c < 6 → (flatC xs)[i * 6 + c]? = (cv x)[c]?
  | y :: r, 0, x, h, c, hc => by
    simp at h
    subst h
    have e : flatC (y :: r) = (cv y).toList ++ flatC r := by simp [flatC]
    rw [e, Nat.zero_mul, Nat.zero_add, List.getElem?_append_left (by simpa [cv] using hc), Array.getElem?_toList]
  | y :: r, i + 1, x, h, c, hc => by
    have e : flatC (y :: r) = (cv y).toList ++ flatC r := by simp [flatC]
    have hl : (cv y).toList.length = 6 := rfl
    rw [e, List.getElem?_append_right (by omega), hl, show (i + 1) * 6 + c - 6 = i * 6 + c by omega]
    exact flatC_at (by simpa using h) c hc
theorem flatC_len (xs : List Ch) : (flatC xs).length = xs.length * 6 := by
  induction xs with
  | nil => rfl
  | cons x r ih =>
    have e : flatC (x :: r) = (cv x).toList ++ flatC r := by simp [flatC]
    have hl : (cv x).toList.length = 6 := rfl
    rw [e, List.length_append, ih, hl, List.length_cons]
    omega
theorem own_readsC {w : World} {base n cap : Nat} {A : Option Addr} {xs : List Ch} (h : w.ownsRow base 61 6 (.slice A n cap) n (flatC xs)) : ReadsC w A xs ∧ xs.length = n := by
  have hl : xs.length = n := by have := h.1; rw [flatC_len] at this; omega
  refine ⟨fun hn => ?_, hl⟩
  rcases h.2 with ⟨_, h0⟩ | ⟨g, cap', cur, e, hb, hg, h1, h2, h3, h4⟩
  · omega
  · injection e with e1 _ _
    subst e1
    refine ⟨g, 0, rfl, lt_of_has hg, fun i x hi c hc => ?_⟩
    have ha := flatC_at hi c hc
    have hlt : c < (cv x).size := hc
    rw [Array.getElem?_eq_getElem hlt] at ha ⊢
    have := h.cells (g := g) rfl (i * 6 + c) _ ha
    rwa [addr_add0, ← Nat.zero_add (i * 6 + c), ← Nat.add_assoc] at this
theorem elem_choice : ElemOK Tryd.prog 22 61 (.agg #[.int .i64 0, .int .i64 0, .int .i64 0, .int .i64 0, .int .i64 0, .string ⟨#[]⟩]) 6 56 := ⟨Tryd.underlying22, by kernel_rfl, rfl, by decide⟩
def PsOut (r : Sc × Int × Int) (e : Ending) (w' : World) : Prop := ∃ A cap, e = .returned (.tuple #[.agg (scv r.1 (.slice A r.1.l.length cap)), .int .i64 r.2.1, .int .i64 r.2.2]) ∧ ReadsC w' A r.1.l
theorem loose_ok (t : List UInt8) : (looseH t).ok ∧ (looseH t).l = [] := by
  unfold looseH
  split
  · exact ⟨⟨numV_in _, numV_in _, numV_in _, by simp⟩, rfl⟩
  · exact ⟨⟨in64_zero, in64_zero, in64_zero, by simp [Sc.zero]⟩, rfl⟩
theorem loose_seed {t : List UInt8} {n : Nat} (h : t.length ≤ n) : (looseH t).seed.length ≤ n := by
  unfold looseH
  split
  · rename_i a b c d e hp
    have h1 := parts_len (c := 32) (s := t) (p := e) (by rw [hp]; simp)
    have h2 := unhexL_len e
    show (unhexL e).length ≤ n
    omega
  · exact Nat.zero_le _
theorem goS_last {i : Nat} {s : Sc} {t : List UInt8} : goS i s [t] = if 0 < i ∧ t = [] then (s, 0, 0) else (Sc.zero, (i : Int) + 1, 4) := by rw [goS]
theorem goS_head {s : Sc} {t : List UInt8} {r : List (List UInt8)} (hr : r ≠ []) : goS 0 s (t :: r) = match headS t with | none => (Sc.zero, 1, 4) | some h => goS 1 h r := by
  cases r with
  | nil => exact absurd rfl hr
  | cons a b => rw [goS]; · rfl
                · simp
theorem goS_line {i : Nat} {s : Sc} {t : List UInt8} {r : List (List UInt8)} (hi : 0 < i) (hr : r ≠ []) : goS i s (t :: r) = match choiceS t with | none => (Sc.zero, (i : Int) + 1, 4) | some x => if 500 ≤ s.l.length then (Sc.zero, (i : Int) + 1, 2) else goS (i + 1) { s with l := s.l ++ [x] } r := by
  cases r with
  | nil => exact absurd rfl hr
  | cons a b => rw [goS]; · rw [if_neg (by omega)]; rfl
                · simp

set_option maxRecDepth 100000 in
set_option maxHeartbeats 32000000 in
theorem parse_any (s : ByteArray) (hs : s.size ≤ 1000000) (w : World) (hg : GW w) : Calls Tryd.prog 12 #[.string s] w fun e w' => PsOut (parseS s.data.toList) e w' ∧ Chg [] w w' := by
  have hsz : s.data.toList.length = s.size := rfl
  obtain ⟨ls, hls⟩ : ∃ l, parts 10 s.data.toList = l := ⟨_, rfl⟩
  have hne : 0 < ls.length := by
    rw [← hls]
    exact List.length_pos_iff.2 (parts_ne _ _)
  have hlen : ∀ p ∈ ls, p.length ≤ 1000000 := fun p hp => by
    have := parts_len (c := 10) (s := s.data.toList) (p := p) (by rw [hls]; exact hp)
    omega
  have hll : ls.length ≤ 1000001 := by
    have := parts_count (c := 10) s.data.toList
    rw [hls, hsz] at this
    omega
  have hps : parseS s.data.toList = goS 0 Sc.zero ls := by unfold parseS; rw [hls]
  obtain ⟨b, hb⟩ : ∃ b, w.heap.size = b := ⟨_, rfl⟩
  obtain ⟨W1, hW1⟩ : ∃ W1, w.alloc (.cells #[.int .i64 0, .int .i64 0, .int .i64 0, .string ⟨#[]⟩, .slice none 0 0] 24) = W1 := ⟨_, rfl⟩
  have hX : W1.heap[b]? = some (.cells (scv Sc.zero (.slice none 0 0)) 24 (0, 0)) := by rw [← hW1, ← hb]; exact has_alloc_new _ _
  have hC1 : Chg [] w W1 := by rw [← hW1]; exact (Chg.refl _ _).alloc _
  have c1 := split_any s 10 (by omega) W1 (hg.chg hC1)
  rw [hls] at c1
  have HX := Lib.hid hX; have HC1 := Lib.hid hC1; have HG := Lib.hid (hg.chg hC1); have HW1 := Lib.hid hW1; have Hb := Lib.hid hb; have C1 := Lib.hid c1
  have HLS := Lib.hid hls; have HLen := Lib.hid hlen; have HPS := Lib.hid hps
  clear hX hC1 hg hW1 hb c1 hls hlen hsz hps
  go_enter Tryd.func12, Tryd.ntmps12
  go_upto_region 1 with fail
  try rw [show (w.alloc (.cells #[.int .i64 0, .int .i64 0, .int .i64 0, .string ByteArray.empty, .slice none 0 0] 24)) = W1 from HW1.out]
  try rw [HW1.out]
  try rw [Hb.out]
  go_step3
  go_wp2_with fail
  refine C1.out.mono ?_
  rintro e w1 ⟨bw, rfl, hRS, hC⟩
  have HRS := Lib.hid hRS; have HC := Lib.hid (HC1.out.trans hC); have HX1 := Lib.hid (hC.has HX.out nmN); have HG1 := Lib.hid (HG.out.chg hC)
  clear hRS hC
  go_upto_region 3 with fail
  obtain ⟨bS, hbS⟩ : ∃ b, w1.heap.size = b := ⟨_, rfl⟩
  obtain ⟨W2, hW2⟩ : ∃ W2, w1.alloc (.cells #[.int .i64 0, .int .i64 0, .int .i64 0, .string ⟨#[]⟩, .slice none 0 0] 24) = W2 := ⟨_, rfl⟩
  have hY : W2.heap[bS]? = some (.cells (scv Sc.zero (.slice none 0 0)) 24 (0, 0)) := by rw [← hW2, ← hbS]; exact has_alloc_new _ _
  have hC2 : Chg [] w1 W2 := by rw [← hW2]; exact (Chg.refl _ _).alloc _
  have hle : w1.heap.size ≤ bS := Nat.le_of_eq hbS
  try rw [show w1.alloc (.cells #[.int .i64 0, .int .i64 0, .int .i64 0, .string ByteArray.empty, .slice none 0 0] 24) = W2 from hW2]
  try rw [hW2]
  try rw [hbS]
  have HY := Lib.hid hY; have HC2 := Lib.hid hC2; have HLe := Lib.hid hle
  have hbb := lt_of_has HX1.out
  clear hY hC2 hW2 hbS hle
  go_wp2_with fail
  go_step3
  go_wp2_with fail
  go_loopg [7, 8, 9, 10, 11, 12, 13, 14, 19] ls.length (fun g ev _ _ _ _ _ _ _ i wr => ∃ (k n cap : Nat) (A : Option Addr) (sc : Sc), g + k = ls.length ∧ k < ls.length ∧ ev = .int .i64 0 ∧ i = .int .i64 k ∧ wr.heap[bS]? = some (.cells (scv sc (.slice A n cap)) 24 (0, 0)) ∧
    wr.ownsRow w1.heap.size 61 6 (.slice A n cap) n (flatC sc.l) ∧ n = sc.l.length ∧ parseS s.data.toList = goS k sc (ls.drop k) ∧ (k = 0 → sc = Sc.zero ∧ A = none ∧ cap = 0) ∧ n ≤ 500 ∧ Chg [] w1 wr)
  case atStart => exact ⟨0, 0, 0, none, Sc.zero, rfl, hne, rfl, rfl, HY.out, World.ownsRow_nil _ _ _ _, rfl, HPS.out, fun _ => ⟨rfl, rfl, rfl⟩, Nat.zero_le _, HC2.out⟩
  case round =>
    obtain ⟨k, n, cap, A, sc, hk, hlt, rfl, rfl, hS, hown, hn, hgo, hz, h500, hCr⟩ := hrel
    obtain ⟨v, hv⟩ : ∃ v, ls[k] = v := ⟨_, rfl⟩
    have hdr : ls.drop k = v :: ls.drop (k + 1) := by rw [List.drop_eq_getElem_cons hlt, hv]
    rw [hdr] at hgo
    have hvl : v.length ≤ 1000000 := HLen.out v (by rw [← hv]; exact List.getElem_mem hlt)
    have q1 : w1.cell? ⟨bw, k, none⟩ = some (.string ⟨v.toArray⟩) := by
      have h := HRS.out.2 k v (by rw [List.getElem?_eq_getElem hlt, hv])
      rwa [Nat.zero_add] at h
    have q := hCr.cell q1 nmN
    have HS := Lib.hid hS; have HOwn := Lib.hid hown; have HN := Lib.hid hn; have HGo := Lib.hid hgo; have HZ0 := Lib.hid hz; have HCr := Lib.hid hCr; have HK := Lib.hid hk; have HVL := Lib.hid hvl
    have HGr := Lib.hid (HG1.out.chg hCr)
    have hne2 : ¬ b = bS := by have := HLe.out; omega
    clear hS hown hn hgo hz hCr hk hv hdr q1 hvl
    by_cases hlast : k + 1 = ls.length
    · have f1 : ((k : Int) == (ls.length : Int) - 1) = true := by rw [beq_iff_eq]; omega
      have hd1 : ls.drop (k + 1) = [] := List.drop_of_length_le (by omega)
      have HR0 := Lib.hid (show parseS s.data.toList = if 0 < k ∧ v = [] then (sc, 0, 0) else (Sc.zero, (k : Int) + 1, 4) by rw [HGo.out, hd1, goS_last])
      clear hd1
      by_cases hk0 : 0 < k
      · have f2 : decide ((0 : Int) < k) = true := decide_eq_true (by omega)
        by_cases hv0 : v = []
        · have HR := Lib.hid (show parseS s.data.toList = (sc, 0, 0) by rw [HR0.out, if_pos ⟨hk0, hv0⟩])
          have f3 : v.isEmpty = true := by rw [hv0]; rfl
          have HS5 := Lib.hid (HCr.out.has HX1.out nmN)
          obtain ⟨s0, s1, s2, s3, s4⟩ := sc_all HS.out
          obtain ⟨x0, x1, x2, x3, x4⟩ := sc_all HS5.out
          have z0 := sc_fz HS5.out 0; have z1 := sc_fz HS5.out 1; have z2 := sc_fz HS5.out 2; have z3 := sc_fz HS5.out 3; have z4 := sc_fz HS5.out 4
          clear hv0
          go_wp2_with fail
          obtain ⟨W6, hW6⟩ : ∃ W6, put5 wr b sc (.slice A n cap) = W6 := ⟨_, rfl⟩
          have hB6 : W6.heap[b]? = some (.cells (scv sc (.slice A n cap)) 24 (0, 0)) := by rw [← hW6]; exact put5_has HS5.out sc (.slice A n cap)
          have hCb : Chg [b] wr W6 := by rw [← hW6]; exact (Chg.refl _ _).put5 (Or.inl (by simp)) sc _
          have HCF := Lib.hid (show Chg [] w W6 by rw [← hW6]; exact (HC.out.trans HCr.out).put5 (Or.inr (Nat.le_of_eq Hb.out)) sc _)
          have HRd := Lib.hid (show ReadsC W6 A sc.l from (own_readsC HOwn.out).1.chg hCb (fun b' off e => by
            have := (HOwn.out.lt b' (by rw [e]; rfl)).1
            simp
            omega))
          obtain ⟨k0, k1, k2, k3, k4⟩ := sc_all hB6
          unfold put5 at hW6
          rw [hW6, Exit.noGoto_ret]
          clear hW6 hB6 hCb
          exact bodyPost_ret (v := .tuple #[.agg (scv sc (.slice A n cap)), .int .i64 0, .int .i64 0]) (by simp [results, Tryd.results12, go_sem, scv, k0, k1, k2, k3, k4]) rfl ⟨by rw [HR.out]; exact ⟨A, cap, by rw [← HN.out], HRd.out⟩, HCF.out⟩
        · have HR := Lib.hid (show parseS s.data.toList = (Sc.zero, (k : Int) + 1, 4) by rw [HR0.out, if_neg (fun h => hv0 h.2)])
          have f3 : v.isEmpty = false := by simpa using hv0
          have f3b : (v == []) = false := by simpa using hv0
          have HS5 := Lib.hid ((show Chg [] w1 wr from HCr.out).has HX1.out nmN)
          obtain ⟨x0, x1, x2, x3, x4⟩ := sc_all HS5.out
          have z0 := sc_fz HS5.out 0; have z1 := sc_fz HS5.out 1; have z2 := sc_fz HS5.out 2; have z3 := sc_fz HS5.out 3; have z4 := sc_fz HS5.out 4
          go_wp2_with fail
          obtain ⟨W6, hW6⟩ : ∃ W6, ((((wr.setCell ⟨b, 0, none⟩ (.int .i64 0)).setCell ⟨b, 1, none⟩ (.int .i64 0)).setCell ⟨b, 2, none⟩ (.int .i64 0)).setCell ⟨b, 3, none⟩ (.string ⟨#[]⟩)).setCell ⟨b, 4, none⟩ (.slice none 0 0) = W6 := ⟨_, rfl⟩
          have hB6 : W6.heap[b]? = some (.cells (scv Sc.zero (.slice none 0 0)) 24 (0, 0)) := by rw [← hW6]; exact put5_has HS5.out Sc.zero (.slice none 0 0)
          have HCF := Lib.hid (show Chg [] w W6 by rw [← hW6]; exact (HC.out.trans (HCr.out)).put5 (Or.inr (Nat.le_of_eq Hb.out)) Sc.zero (.slice none 0 0))
          obtain ⟨k0, k1, k2, k3, k4⟩ : W6.cell? ⟨b, 0, none⟩ = some (.int .i64 0) ∧ W6.cell? ⟨b, 1, none⟩ = some (.int .i64 0) ∧ W6.cell? ⟨b, 2, none⟩ = some (.int .i64 0) ∧ W6.cell? ⟨b, 3, none⟩ = some (.string ⟨#[]⟩) ∧ W6.cell? ⟨b, 4, none⟩ = some (.slice none 0 0) := sc_all hB6
          rw [hW6, Exit.noGoto_ret]
          clear hW6 hB6
          exact bodyPost_ret (v := .tuple #[.agg (scv Sc.zero (.slice none 0 0)), .int .i64 ((k : Int) + 1), .int .i64 4]) (by simp [results, Tryd.results12, go_sem, scv, Sc.zero, k0, k1, k2, k3, k4]) rfl ⟨by rw [HR.out]; exact ⟨none, 0, rfl, fun h => absurd h (by simp [Sc.zero])⟩, HCF.out⟩
      · have f2 : decide ((0 : Int) < k) = false := decide_eq_false (by omega)
        have HR := Lib.hid (show parseS s.data.toList = (Sc.zero, (k : Int) + 1, 4) by rw [HR0.out, if_neg (fun h => hk0 h.1)])
        have f2b : decide (0 < k) = false := decide_eq_false hk0
        have HS5 := Lib.hid ((show Chg [] w1 wr from HCr.out).has HX1.out nmN)
        obtain ⟨x0, x1, x2, x3, x4⟩ := sc_all HS5.out
        have z0 := sc_fz HS5.out 0; have z1 := sc_fz HS5.out 1; have z2 := sc_fz HS5.out 2; have z3 := sc_fz HS5.out 3; have z4 := sc_fz HS5.out 4
        go_wp2_with fail
        obtain ⟨W6, hW6⟩ : ∃ W6, ((((wr.setCell ⟨b, 0, none⟩ (.int .i64 0)).setCell ⟨b, 1, none⟩ (.int .i64 0)).setCell ⟨b, 2, none⟩ (.int .i64 0)).setCell ⟨b, 3, none⟩ (.string ⟨#[]⟩)).setCell ⟨b, 4, none⟩ (.slice none 0 0) = W6 := ⟨_, rfl⟩
        have hB6 : W6.heap[b]? = some (.cells (scv Sc.zero (.slice none 0 0)) 24 (0, 0)) := by rw [← hW6]; exact put5_has HS5.out Sc.zero (.slice none 0 0)
        have HCF := Lib.hid (show Chg [] w W6 by rw [← hW6]; exact (HC.out.trans (HCr.out)).put5 (Or.inr (Nat.le_of_eq Hb.out)) Sc.zero (.slice none 0 0))
        obtain ⟨k0, k1, k2, k3, k4⟩ : W6.cell? ⟨b, 0, none⟩ = some (.int .i64 0) ∧ W6.cell? ⟨b, 1, none⟩ = some (.int .i64 0) ∧ W6.cell? ⟨b, 2, none⟩ = some (.int .i64 0) ∧ W6.cell? ⟨b, 3, none⟩ = some (.string ⟨#[]⟩) ∧ W6.cell? ⟨b, 4, none⟩ = some (.slice none 0 0) := sc_all hB6
        rw [hW6, Exit.noGoto_ret]
        clear hW6 hB6
        exact bodyPost_ret (v := .tuple #[.agg (scv Sc.zero (.slice none 0 0)), .int .i64 ((k : Int) + 1), .int .i64 4]) (by simp [results, Tryd.results12, go_sem, scv, Sc.zero, k0, k1, k2, k3, k4]) rfl ⟨by rw [HR.out]; exact ⟨none, 0, rfl, fun h => absurd h (by simp [Sc.zero])⟩, HCF.out⟩
    · have f1 : ((k : Int) == (ls.length : Int) - 1) = false := by rw [beq_eq_false_iff_ne]; omega
      have hr : ls.drop (k + 1) ≠ [] := fun h => by
        have := congrArg List.length h
        rw [List.length_drop] at this
        simp at this
        omega
      have hlt2 : k + 1 < ls.length := by omega
      clear hlast
      by_cases hk0 : k = 0
      · obtain ⟨rfl, rfl, rfl⟩ := HZ0.out hk0
        have hn0 : n = 0 := HN.out
        subst hn0
        have f4 : ((k : Int) == 0) = true := by rw [beq_iff_eq]; omega
        have HGo0 := Lib.hid (show parseS s.data.toList = match headS v with | none => (Sc.zero, 1, 4) | some h => goS 1 h (ls.drop (k + 1)) by
          have h := HGo.out
          rw [hk0] at h
          rw [h, goS_head (by rw [← hk0]; exact hr)]
          rw [hk0])
        have Hk0 := Lib.hid hk0
        obtain ⟨hd, hh⟩ : ∃ h, looseH v = h := ⟨_, rfl⟩
        have HH := Lib.hid hh
        have HHok := Lib.hid (show hd.ok by rw [← hh]; exact (loose_ok v).1)
        have HHl := Lib.hid (show hd.l = [] by rw [← hh]; exact (loose_ok v).2)
        have HHseed := Lib.hid (show hd.seed.length ≤ 1000000 by rw [← hh]; exact loose_seed HVL.out)
        obtain ⟨pw, hpw⟩ : ∃ l, parts 32 v = l := ⟨_, rfl⟩
        have c2 := split_any ⟨v.toArray⟩ 32 (by show v.length < _; have := HVL.out; omega) wr HGr.out
        rw [show (⟨v.toArray⟩ : ByteArray).data.toList = v from rfl, hpw] at c2
        have C2 := Lib.hid c2; have HPw := Lib.hid hpw
        have hpl : pw.length ≤ 1000001 := by
          have h1 := parts_count (c := 32) v
          have h2 := HVL.out
          rw [hpw] at h1
          omega
        have hpe : ∀ p ∈ pw, p.length ≤ 1000000 := fun p hp => by
          have h1 := parts_len (c := 32) (s := v) (p := p) (by rw [hpw]; exact hp)
          have h2 := HVL.out
          omega
        have HPe := Lib.hid hpe
        clear hk0 hr c2 hpw hh hpe
        go_wp2_with fail
        refine C2.out.mono ?_
        rintro e w5 ⟨bw2, rfl, hRS2, hC5⟩
        have HRS2 := Lib.hid hRS2; have HC5 := Lib.hid (HCr.out.trans hC5); have HS5 := Lib.hid (hC5.has HS.out nmN)
        clear hRS2 hC5 q
        by_cases hp5 : pw.length = 5
        · obtain ⟨v0, v1, v2, v3, v4, rfl⟩ : ∃ v0 v1 v2 v3 v4, pw = [v0, v1, v2, v3, v4] := by
            match pw, hp5 with
            | [a, b, c, d, e], _ => exact ⟨a, b, c, d, e, rfl⟩
          have f5 : (([v0, v1, v2, v3, v4] : List (List UInt8)).length : Int) = 5 := rfl
          have hhd : hd = ⟨numV v1, numV v2, numV v3, unhexL v4, []⟩ := by
            have h := HH.out
            unfold looseH at h
            rw [HPw.out] at h
            exact h.symm
          have q0 : w5.cell? ⟨bw2, 0, none⟩ = some (.string ⟨v0.toArray⟩) := HRS2.out.2 0 v0 rfl
          have q1 : w5.cell? ⟨bw2, 1, none⟩ = some (.string ⟨v1.toArray⟩) := by have := HRS2.out.2 1 v1 rfl; simpa using this
          have q2 : w5.cell? ⟨bw2, 2, none⟩ = some (.string ⟨v2.toArray⟩) := by have := HRS2.out.2 2 v2 rfl; simpa using this
          have q3 : w5.cell? ⟨bw2, 3, none⟩ = some (.string ⟨v3.toArray⟩) := by have := HRS2.out.2 3 v3 rfl; simpa using this
          have q4 : w5.cell? ⟨bw2, 4, none⟩ = some (.string ⟨v4.toArray⟩) := by have := HRS2.out.2 4 v4 rfl; simpa using this
          have hnb : bw2 ∉ [bS] := by
            intro h
            rw [List.mem_singleton.1 h] at q0
            rw [(sc_all HS5.out).1] at q0
            injection q0 with q0
            cases q0
          have cn1 := number_any ⟨v1.toArray⟩ (by show v1.length ≤ _; have := HPe.out v1 (by simp); omega)
          have cn2 := number_any ⟨v2.toArray⟩ (by show v2.length ≤ _; have := HPe.out v2 (by simp); omega)
          have cn3 := number_any ⟨v3.toArray⟩ (by show v3.length ≤ _; have := HPe.out v3 (by simp); omega)
          have cn4 := unhexed_any ⟨v4.toArray⟩
          have hv4 : (⟨v4.toArray⟩ : ByteArray).size ≤ 1000000 := HPe.out v4 (by simp)
          have hT : ∀ x ∈ [bS], x ∈ ([] : List Nat) ∨ w1.heap.size ≤ x := fun x hx => Or.inr (by rw [List.mem_singleton.1 hx]; exact HLe.out)
          have HHd := Lib.hid hhd
          clear hhd hp5
          go_upto_region 17 with fail
          refine abs_region (B := Chg [bS] w5) (S := fun wz => Chg [bS] w5 wz ∧ wz.heap[bS]? = some (.cells (scv Sc.zero (.slice none 0 0)) 24 (0, 0))) (by kernel_rfl) ⟨(Chg.refl _ _).drew, HS5.out⟩ ?_
          have hG := good_at [bS] w5 bS (.cells (scv Sc.zero (.slice none 0 0)) 24 (0, 0))
          refine Abs.tk (i := 0) (d := some 52) (v := ?_) rfl rfl hG ⟨by rfl, fun w9 hw9 => Or.inl ?_⟩ ?_
          rotate_left
          · go_simp
            try with_reducible rfl
          simp only [Act.put, stA, stB, stC]
          refine Abs.tk (i := 1) (d := some 53) (v := ?_) rfl rfl hG ⟨by rfl, fun w9 hw9 => Or.inl ?_⟩ ?_
          rotate_left
          · go_simp
            try with_reducible rfl
          simp only [Act.put, stA, stB, stC]
          refine Abs.tk (i := 2) (d := some 54) (v := ?_) rfl rfl hG ⟨by rfl, fun w9 hw9 => Or.inl ?_⟩ ?_
          rotate_left
          · replace q1 := hw9.cell q1 hnb
            go_simp
            try with_reducible rfl
          simp only [Act.put, stA, stB, stC]
          refine Abs.tk (i := 3) (d := some 55) (v := _) rfl rfl hG ⟨by rfl, fun w9 hw9 => Or.inr ⟨_, _, ?_, cn1 w9 (HG1.out.chg (HC5.out.trans_new hw9 hT))⟩⟩ ?_
          · go_simp
            try with_reducible rfl
          simp only [Act.put, stA, stB, stC]
          refine Abs.tk (i := 4) (d := some 56) (v := ?_) rfl rfl hG ⟨by rfl, fun w9 hw9 => Or.inl ?_⟩ ?_
          rotate_left
          · go_simp
            try with_reducible rfl
          simp only [Act.put, stA, stB, stC]
          refine Abs.tk (i := 5) (d := some 57) (v := ?_) rfl rfl hG ⟨by rfl, fun w9 hw9 => Or.inl ?_⟩ ?_
          rotate_left
          · go_simp
            try with_reducible rfl
          simp only [Act.put, stA, stB, stC]
          refine Abs.tk (i := 6) (d := some 58) (v := ?_) rfl rfl hG ⟨by rfl, fun w9 hw9 => Or.inl ?_⟩ ?_
          rotate_left
          · replace q2 := hw9.cell q2 hnb
            go_simp
            try with_reducible rfl
          simp only [Act.put, stA, stB, stC]
          refine Abs.tk (i := 7) (d := some 59) (v := _) rfl rfl hG ⟨by rfl, fun w9 hw9 => Or.inr ⟨_, _, ?_, cn2 w9 (HG1.out.chg (HC5.out.trans_new hw9 hT))⟩⟩ ?_
          · go_simp
            try with_reducible rfl
          simp only [Act.put, stA, stB, stC]
          refine Abs.tk (i := 8) (d := some 60) (v := ?_) rfl rfl hG ⟨by rfl, fun w9 hw9 => Or.inl ?_⟩ ?_
          rotate_left
          · go_simp
            try with_reducible rfl
          simp only [Act.put, stA, stB, stC]
          refine Abs.tk (i := 9) (d := some 61) (v := ?_) rfl rfl hG ⟨by rfl, fun w9 hw9 => Or.inl ?_⟩ ?_
          rotate_left
          · go_simp
            try with_reducible rfl
          simp only [Act.put, stA, stB, stC]
          refine Abs.tk (i := 10) (d := some 62) (v := ?_) rfl rfl hG ⟨by rfl, fun w9 hw9 => Or.inl ?_⟩ ?_
          rotate_left
          · replace q3 := hw9.cell q3 hnb
            go_simp
            try with_reducible rfl
          simp only [Act.put, stA, stB, stC]
          refine Abs.tk (i := 11) (d := some 63) (v := _) rfl rfl hG ⟨by rfl, fun w9 hw9 => Or.inr ⟨_, _, ?_, cn3 w9 (HG1.out.chg (HC5.out.trans_new hw9 hT))⟩⟩ ?_
          · go_simp
            try with_reducible rfl
          simp only [Act.put, stA, stB, stC]
          refine Abs.tk (i := 12) (d := some 64) (v := ?_) rfl rfl hG ⟨by rfl, fun w9 hw9 => Or.inl ?_⟩ ?_
          rotate_left
          · go_simp
            try with_reducible rfl
          simp only [Act.put, stA, stB, stC]
          refine Abs.tk (i := 13) (d := some 65) (v := ?_) rfl rfl hG ⟨by rfl, fun w9 hw9 => Or.inl ?_⟩ ?_
          rotate_left
          · go_simp
            try with_reducible rfl
          simp only [Act.put, stA, stB, stC]
          refine Abs.tk (i := 14) (d := some 66) (v := ?_) rfl rfl hG ⟨by rfl, fun w9 hw9 => Or.inl ?_⟩ ?_
          rotate_left
          · replace q4 := hw9.cell q4 hnb
            go_simp
            try with_reducible rfl
          simp only [Act.put, stA, stB, stC]
          refine Abs.tk (i := 15) (d := some 67) (v := _) rfl rfl hG ⟨by rfl, fun w9 hw9 => Or.inr ⟨_, _, ?_, cn4 w9 hv4⟩⟩ ?_
          · go_simp
            try with_reducible rfl
          simp only [Act.put, stA, stB, stC]
          refine Abs.tk (i := 16) (d := some 68) (v := ?_) rfl rfl hG ⟨by rfl, fun w9 hw9 => Or.inl ?_⟩ ?_
          rotate_left
          · go_simp
            try with_reducible rfl
          simp only [Act.put, stA, stB, stC]
          refine Abs.store4 (i := 17) (b := bS) (ds := scv ⟨numV v1, numV v2, numV v3, unhexL v4, []⟩ (.slice none 0 0)) rfl (by kernel_rfl) (by rfl) (fun w9 => put5 w9 bS ⟨numV v1, numV v2, numV v3, unhexL v4, []⟩ (.slice none 0 0)) (fun w9 h9 => ⟨?_, put5_has h9 _ _, (Chg.refl _ _).put5 (Or.inl (by simp)) _ _⟩) (fun _ _ h k => h.trans k) (good_chg [bS] w5) (fun hG => ?_)
          · obtain ⟨n0, n1, n2, n3, n4⟩ := sc_all h9
            have z0 := sc_fz h9 0; have z1 := sc_fz h9 1; have z2 := sc_fz h9 2; have z3 := sc_fz h9 3; have z4 := sc_fz h9 4
            simp only [Sc.zero] at n0 n1 n2 n3 n4
            unfold put5
            clear h9
            go_simp
            try with_reducible rfl
          refine Abs.at_put (d := none) rfl ?_
          simp only [Act.put, stA, stB, stC]
          refine Abs.done (by kernel_rfl) (fun wx hx => NoPanic.normal ?_) _
          have HS6 := Lib.hid (show wx.heap[bS]? = some (.cells (scv hd (.slice none 0 0)) 24 (0, 0)) by rw [HHd.out]; exact hx.2)
          have HC6 := Lib.hid (HC5.out.trans_new hx.1 hT)
          clear hx hG q0 q1 q2 q3 q4 cn1 cn2 cn3 cn4 hnb hT hv4 f5
          obtain ⟨s0, s1, s2, s3, s4⟩ := sc_all HS6.out
          have ch0 := head_any hd (.slice none 0 0) rfl HHok.out HHseed.out
          simp only [scv] at ch0
          have CH0 := Lib.hid ch0
          clear ch0
          go_wp2_with fail
          refine (CH0.out _ (HG1.out.chg (HC6.out))).mono ?_
          rintro e w7 ⟨rfl, hC7⟩
          have HS7 := Lib.hid (hC7.has (HS6.out) nmN); have HC7 := Lib.hid ((HC6.out).trans hC7)
          clear hC7 s0 s1 s2 s3 s4
          obtain ⟨s0, s1, s2, s3, s4⟩ := sc_all HS7.out
          by_cases ph : headL hd = v
          · have g0 : (headL hd != v) = false := by simpa using ph
            have g0b : (headL hd == v) = true := by simpa using ph
            by_cases p1 : hd.odd < 0
            · have g1 : decide (hd.odd < 0) = true := decide_eq_true p1
              have HR := Lib.hid (show parseS s.data.toList = (Sc.zero, (k : Int) + 1, 4) by rw [HGo0.out, headS, HH.out, if_neg (by omega)]; simp only; rw [Hk0.out]; rfl)
              clear ph
              have HS5 := Lib.hid ((show Chg [] w1 w7 from HC7.out).has HX1.out nmN)
              obtain ⟨x0, x1, x2, x3, x4⟩ := sc_all HS5.out
              have z0 := sc_fz HS5.out 0; have z1 := sc_fz HS5.out 1; have z2 := sc_fz HS5.out 2; have z3 := sc_fz HS5.out 3; have z4 := sc_fz HS5.out 4
              go_wp2_with fail
              obtain ⟨W6, hW6⟩ : ∃ W6, ((((w7.setCell ⟨b, 0, none⟩ (.int .i64 0)).setCell ⟨b, 1, none⟩ (.int .i64 0)).setCell ⟨b, 2, none⟩ (.int .i64 0)).setCell ⟨b, 3, none⟩ (.string ⟨#[]⟩)).setCell ⟨b, 4, none⟩ (.slice none 0 0) = W6 := ⟨_, rfl⟩
              have hB6 : W6.heap[b]? = some (.cells (scv Sc.zero (.slice none 0 0)) 24 (0, 0)) := by rw [← hW6]; exact put5_has HS5.out Sc.zero (.slice none 0 0)
              have HCF := Lib.hid (show Chg [] w W6 by rw [← hW6]; exact (HC.out.trans (HC7.out)).put5 (Or.inr (Nat.le_of_eq Hb.out)) Sc.zero (.slice none 0 0))
              obtain ⟨k0, k1, k2, k3, k4⟩ : W6.cell? ⟨b, 0, none⟩ = some (.int .i64 0) ∧ W6.cell? ⟨b, 1, none⟩ = some (.int .i64 0) ∧ W6.cell? ⟨b, 2, none⟩ = some (.int .i64 0) ∧ W6.cell? ⟨b, 3, none⟩ = some (.string ⟨#[]⟩) ∧ W6.cell? ⟨b, 4, none⟩ = some (.slice none 0 0) := sc_all hB6
              rw [hW6, Exit.noGoto_ret]
              clear hW6 hB6
              exact bodyPost_ret (v := .tuple #[.agg (scv Sc.zero (.slice none 0 0)), .int .i64 ((k : Int) + 1), .int .i64 4]) (by simp [results, Tryd.results12, go_sem, scv, Sc.zero, k0, k1, k2, k3, k4]) rfl ⟨by rw [HR.out]; exact ⟨none, 0, rfl, fun h => absurd h (by simp [Sc.zero])⟩, HCF.out⟩
            · have g1 : decide (hd.odd < 0) = false := decide_eq_false p1
              by_cases p2 : 1023 < hd.odd
              · have g2 : decide (1023 < hd.odd) = true := decide_eq_true p2
                have HR := Lib.hid (show parseS s.data.toList = (Sc.zero, (k : Int) + 1, 4) by rw [HGo0.out, headS, HH.out, if_neg (by omega)]; simp only; rw [Hk0.out]; rfl)
                clear ph
                have HS5 := Lib.hid ((show Chg [] w1 w7 from HC7.out).has HX1.out nmN)
                obtain ⟨x0, x1, x2, x3, x4⟩ := sc_all HS5.out
                have z0 := sc_fz HS5.out 0; have z1 := sc_fz HS5.out 1; have z2 := sc_fz HS5.out 2; have z3 := sc_fz HS5.out 3; have z4 := sc_fz HS5.out 4
                go_wp2_with fail
                obtain ⟨W6, hW6⟩ : ∃ W6, ((((w7.setCell ⟨b, 0, none⟩ (.int .i64 0)).setCell ⟨b, 1, none⟩ (.int .i64 0)).setCell ⟨b, 2, none⟩ (.int .i64 0)).setCell ⟨b, 3, none⟩ (.string ⟨#[]⟩)).setCell ⟨b, 4, none⟩ (.slice none 0 0) = W6 := ⟨_, rfl⟩
                have hB6 : W6.heap[b]? = some (.cells (scv Sc.zero (.slice none 0 0)) 24 (0, 0)) := by rw [← hW6]; exact put5_has HS5.out Sc.zero (.slice none 0 0)
                have HCF := Lib.hid (show Chg [] w W6 by rw [← hW6]; exact (HC.out.trans (HC7.out)).put5 (Or.inr (Nat.le_of_eq Hb.out)) Sc.zero (.slice none 0 0))
                obtain ⟨k0, k1, k2, k3, k4⟩ : W6.cell? ⟨b, 0, none⟩ = some (.int .i64 0) ∧ W6.cell? ⟨b, 1, none⟩ = some (.int .i64 0) ∧ W6.cell? ⟨b, 2, none⟩ = some (.int .i64 0) ∧ W6.cell? ⟨b, 3, none⟩ = some (.string ⟨#[]⟩) ∧ W6.cell? ⟨b, 4, none⟩ = some (.slice none 0 0) := sc_all hB6
                rw [hW6, Exit.noGoto_ret]
                clear hW6 hB6
                exact bodyPost_ret (v := .tuple #[.agg (scv Sc.zero (.slice none 0 0)), .int .i64 ((k : Int) + 1), .int .i64 4]) (by simp [results, Tryd.results12, go_sem, scv, Sc.zero, k0, k1, k2, k3, k4]) rfl ⟨by rw [HR.out]; exact ⟨none, 0, rfl, fun h => absurd h (by simp [Sc.zero])⟩, HCF.out⟩
              · have g2 : decide (1023 < hd.odd) = false := decide_eq_false p2
                by_cases p3 : 60 < hd.seed.length
                · have g3 : decide ((60 : Int) < hd.seed.length) = true := decide_eq_true (by omega)
                  have HR := Lib.hid (show parseS s.data.toList = (Sc.zero, (k : Int) + 1, 4) by rw [HGo0.out, headS, HH.out, if_neg (by omega)]; simp only; rw [Hk0.out]; rfl)
                  clear ph
                  have HS5 := Lib.hid ((show Chg [] w1 w7 from HC7.out).has HX1.out nmN)
                  obtain ⟨x0, x1, x2, x3, x4⟩ := sc_all HS5.out
                  have z0 := sc_fz HS5.out 0; have z1 := sc_fz HS5.out 1; have z2 := sc_fz HS5.out 2; have z3 := sc_fz HS5.out 3; have z4 := sc_fz HS5.out 4
                  go_wp2_with fail
                  obtain ⟨W6, hW6⟩ : ∃ W6, ((((w7.setCell ⟨b, 0, none⟩ (.int .i64 0)).setCell ⟨b, 1, none⟩ (.int .i64 0)).setCell ⟨b, 2, none⟩ (.int .i64 0)).setCell ⟨b, 3, none⟩ (.string ⟨#[]⟩)).setCell ⟨b, 4, none⟩ (.slice none 0 0) = W6 := ⟨_, rfl⟩
                  have hB6 : W6.heap[b]? = some (.cells (scv Sc.zero (.slice none 0 0)) 24 (0, 0)) := by rw [← hW6]; exact put5_has HS5.out Sc.zero (.slice none 0 0)
                  have HCF := Lib.hid (show Chg [] w W6 by rw [← hW6]; exact (HC.out.trans (HC7.out)).put5 (Or.inr (Nat.le_of_eq Hb.out)) Sc.zero (.slice none 0 0))
                  obtain ⟨k0, k1, k2, k3, k4⟩ : W6.cell? ⟨b, 0, none⟩ = some (.int .i64 0) ∧ W6.cell? ⟨b, 1, none⟩ = some (.int .i64 0) ∧ W6.cell? ⟨b, 2, none⟩ = some (.int .i64 0) ∧ W6.cell? ⟨b, 3, none⟩ = some (.string ⟨#[]⟩) ∧ W6.cell? ⟨b, 4, none⟩ = some (.slice none 0 0) := sc_all hB6
                  rw [hW6, Exit.noGoto_ret]
                  clear hW6 hB6
                  exact bodyPost_ret (v := .tuple #[.agg (scv Sc.zero (.slice none 0 0)), .int .i64 ((k : Int) + 1), .int .i64 4]) (by simp [results, Tryd.results12, go_sem, scv, Sc.zero, k0, k1, k2, k3, k4]) rfl ⟨by rw [HR.out]; exact ⟨none, 0, rfl, fun h => absurd h (by simp [Sc.zero])⟩, HCF.out⟩
                · have g3 : decide ((60 : Int) < hd.seed.length) = false := decide_eq_false (by omega)
                  have HR := Lib.hid (show parseS s.data.toList = goS 1 hd (ls.drop (k + 1)) by rw [HGo0.out, headS, HH.out, if_pos ⟨ph, by omega⟩])
                  clear ph
                  go_wp2_with fail
                  go_roundg (ls.length - (k + 1))
                  case measure => have := HK.out; omega
                  case rel =>
                    refine ⟨k + 1, 0, 0, none, hd, by have := HK.out; omega, by omega, rfl, by go_num, HS7.out, ?_, by rw [HHl.out]; rfl, ?_, fun h => by omega, Nat.zero_le _, HC7.out⟩
                    · rw [HHl.out]; exact World.ownsRow_nil _ _ _ _
                    · rw [HR.out, Hk0.out]
          · have g0 : (headL hd != v) = true := by simpa using ph
            have g0b : (headL hd == v) = false := by simpa using ph
            have HR := Lib.hid (show parseS s.data.toList = (Sc.zero, (k : Int) + 1, 4) by rw [HGo0.out, headS, HH.out, if_neg (fun h => ph h.1)]; simp only; rw [Hk0.out]; rfl)
            clear ph
            have HS5 := Lib.hid ((show Chg [] w1 w7 from HC7.out).has HX1.out nmN)
            obtain ⟨x0, x1, x2, x3, x4⟩ := sc_all HS5.out
            have z0 := sc_fz HS5.out 0; have z1 := sc_fz HS5.out 1; have z2 := sc_fz HS5.out 2; have z3 := sc_fz HS5.out 3; have z4 := sc_fz HS5.out 4
            go_wp2_with fail
            obtain ⟨W6, hW6⟩ : ∃ W6, ((((w7.setCell ⟨b, 0, none⟩ (.int .i64 0)).setCell ⟨b, 1, none⟩ (.int .i64 0)).setCell ⟨b, 2, none⟩ (.int .i64 0)).setCell ⟨b, 3, none⟩ (.string ⟨#[]⟩)).setCell ⟨b, 4, none⟩ (.slice none 0 0) = W6 := ⟨_, rfl⟩
            have hB6 : W6.heap[b]? = some (.cells (scv Sc.zero (.slice none 0 0)) 24 (0, 0)) := by rw [← hW6]; exact put5_has HS5.out Sc.zero (.slice none 0 0)
            have HCF := Lib.hid (show Chg [] w W6 by rw [← hW6]; exact (HC.out.trans (HC7.out)).put5 (Or.inr (Nat.le_of_eq Hb.out)) Sc.zero (.slice none 0 0))
            obtain ⟨k0, k1, k2, k3, k4⟩ : W6.cell? ⟨b, 0, none⟩ = some (.int .i64 0) ∧ W6.cell? ⟨b, 1, none⟩ = some (.int .i64 0) ∧ W6.cell? ⟨b, 2, none⟩ = some (.int .i64 0) ∧ W6.cell? ⟨b, 3, none⟩ = some (.string ⟨#[]⟩) ∧ W6.cell? ⟨b, 4, none⟩ = some (.slice none 0 0) := sc_all hB6
            rw [hW6, Exit.noGoto_ret]
            clear hW6 hB6
            exact bodyPost_ret (v := .tuple #[.agg (scv Sc.zero (.slice none 0 0)), .int .i64 ((k : Int) + 1), .int .i64 4]) (by simp [results, Tryd.results12, go_sem, scv, Sc.zero, k0, k1, k2, k3, k4]) rfl ⟨by rw [HR.out]; exact ⟨none, 0, rfl, fun h => absurd h (by simp [Sc.zero])⟩, HCF.out⟩
        · have f5 : ((pw.length : Int) == 5) = false := by rw [beq_eq_false_iff_ne]; omega
          have hhd : hd = Sc.zero := by
            have h := HH.out
            unfold looseH at h
            rw [HPw.out] at h
            revert h
            match pw, hp5 with
            | [], _ => exact fun h => h.symm
            | [_], _ => exact fun h => h.symm
            | [_, _], _ => exact fun h => h.symm
            | [_, _, _], _ => exact fun h => h.symm
            | [_, _, _, _], _ => exact fun h => h.symm
            | [_, _, _, _, _], h => exact absurd rfl h
            | _ :: _ :: _ :: _ :: _ :: _ :: _, _ => exact fun h => h.symm
          have HS6 := Lib.hid (show w5.heap[bS]? = some (.cells (scv hd (.slice none 0 0)) 24 (0, 0)) by rw [hhd]; exact HS5.out)
          clear hhd hp5
          obtain ⟨s0, s1, s2, s3, s4⟩ := sc_all HS6.out
          have ch0 := head_any hd (.slice none 0 0) rfl HHok.out HHseed.out
          simp only [scv] at ch0
          have CH0 := Lib.hid ch0
          clear ch0
          go_wp2_with fail
          refine (CH0.out _ (HG1.out.chg (HC5.out))).mono ?_
          rintro e w7 ⟨rfl, hC7⟩
          have HS7 := Lib.hid (hC7.has (HS6.out) nmN); have HC7 := Lib.hid ((HC5.out).trans hC7)
          clear hC7 s0 s1 s2 s3 s4
          obtain ⟨s0, s1, s2, s3, s4⟩ := sc_all HS7.out
          by_cases ph : headL hd = v
          · have g0 : (headL hd != v) = false := by simpa using ph
            have g0b : (headL hd == v) = true := by simpa using ph
            by_cases p1 : hd.odd < 0
            · have g1 : decide (hd.odd < 0) = true := decide_eq_true p1
              have HR := Lib.hid (show parseS s.data.toList = (Sc.zero, (k : Int) + 1, 4) by rw [HGo0.out, headS, HH.out, if_neg (by omega)]; simp only; rw [Hk0.out]; rfl)
              clear ph
              have HS5 := Lib.hid ((show Chg [] w1 w7 from HC7.out).has HX1.out nmN)
              obtain ⟨x0, x1, x2, x3, x4⟩ := sc_all HS5.out
              have z0 := sc_fz HS5.out 0; have z1 := sc_fz HS5.out 1; have z2 := sc_fz HS5.out 2; have z3 := sc_fz HS5.out 3; have z4 := sc_fz HS5.out 4
              go_wp2_with fail
              obtain ⟨W6, hW6⟩ : ∃ W6, ((((w7.setCell ⟨b, 0, none⟩ (.int .i64 0)).setCell ⟨b, 1, none⟩ (.int .i64 0)).setCell ⟨b, 2, none⟩ (.int .i64 0)).setCell ⟨b, 3, none⟩ (.string ⟨#[]⟩)).setCell ⟨b, 4, none⟩ (.slice none 0 0) = W6 := ⟨_, rfl⟩
              have hB6 : W6.heap[b]? = some (.cells (scv Sc.zero (.slice none 0 0)) 24 (0, 0)) := by rw [← hW6]; exact put5_has HS5.out Sc.zero (.slice none 0 0)
              have HCF := Lib.hid (show Chg [] w W6 by rw [← hW6]; exact (HC.out.trans (HC7.out)).put5 (Or.inr (Nat.le_of_eq Hb.out)) Sc.zero (.slice none 0 0))
              obtain ⟨k0, k1, k2, k3, k4⟩ : W6.cell? ⟨b, 0, none⟩ = some (.int .i64 0) ∧ W6.cell? ⟨b, 1, none⟩ = some (.int .i64 0) ∧ W6.cell? ⟨b, 2, none⟩ = some (.int .i64 0) ∧ W6.cell? ⟨b, 3, none⟩ = some (.string ⟨#[]⟩) ∧ W6.cell? ⟨b, 4, none⟩ = some (.slice none 0 0) := sc_all hB6
              rw [hW6, Exit.noGoto_ret]
              clear hW6 hB6
              exact bodyPost_ret (v := .tuple #[.agg (scv Sc.zero (.slice none 0 0)), .int .i64 ((k : Int) + 1), .int .i64 4]) (by simp [results, Tryd.results12, go_sem, scv, Sc.zero, k0, k1, k2, k3, k4]) rfl ⟨by rw [HR.out]; exact ⟨none, 0, rfl, fun h => absurd h (by simp [Sc.zero])⟩, HCF.out⟩
            · have g1 : decide (hd.odd < 0) = false := decide_eq_false p1
              by_cases p2 : 1023 < hd.odd
              · have g2 : decide (1023 < hd.odd) = true := decide_eq_true p2
                have HR := Lib.hid (show parseS s.data.toList = (Sc.zero, (k : Int) + 1, 4) by rw [HGo0.out, headS, HH.out, if_neg (by omega)]; simp only; rw [Hk0.out]; rfl)
                clear ph
                have HS5 := Lib.hid ((show Chg [] w1 w7 from HC7.out).has HX1.out nmN)
                obtain ⟨x0, x1, x2, x3, x4⟩ := sc_all HS5.out
                have z0 := sc_fz HS5.out 0; have z1 := sc_fz HS5.out 1; have z2 := sc_fz HS5.out 2; have z3 := sc_fz HS5.out 3; have z4 := sc_fz HS5.out 4
                go_wp2_with fail
                obtain ⟨W6, hW6⟩ : ∃ W6, ((((w7.setCell ⟨b, 0, none⟩ (.int .i64 0)).setCell ⟨b, 1, none⟩ (.int .i64 0)).setCell ⟨b, 2, none⟩ (.int .i64 0)).setCell ⟨b, 3, none⟩ (.string ⟨#[]⟩)).setCell ⟨b, 4, none⟩ (.slice none 0 0) = W6 := ⟨_, rfl⟩
                have hB6 : W6.heap[b]? = some (.cells (scv Sc.zero (.slice none 0 0)) 24 (0, 0)) := by rw [← hW6]; exact put5_has HS5.out Sc.zero (.slice none 0 0)
                have HCF := Lib.hid (show Chg [] w W6 by rw [← hW6]; exact (HC.out.trans (HC7.out)).put5 (Or.inr (Nat.le_of_eq Hb.out)) Sc.zero (.slice none 0 0))
                obtain ⟨k0, k1, k2, k3, k4⟩ : W6.cell? ⟨b, 0, none⟩ = some (.int .i64 0) ∧ W6.cell? ⟨b, 1, none⟩ = some (.int .i64 0) ∧ W6.cell? ⟨b, 2, none⟩ = some (.int .i64 0) ∧ W6.cell? ⟨b, 3, none⟩ = some (.string ⟨#[]⟩) ∧ W6.cell? ⟨b, 4, none⟩ = some (.slice none 0 0) := sc_all hB6
                rw [hW6, Exit.noGoto_ret]
                clear hW6 hB6
                exact bodyPost_ret (v := .tuple #[.agg (scv Sc.zero (.slice none 0 0)), .int .i64 ((k : Int) + 1), .int .i64 4]) (by simp [results, Tryd.results12, go_sem, scv, Sc.zero, k0, k1, k2, k3, k4]) rfl ⟨by rw [HR.out]; exact ⟨none, 0, rfl, fun h => absurd h (by simp [Sc.zero])⟩, HCF.out⟩
              · have g2 : decide (1023 < hd.odd) = false := decide_eq_false p2
                by_cases p3 : 60 < hd.seed.length
                · have g3 : decide ((60 : Int) < hd.seed.length) = true := decide_eq_true (by omega)
                  have HR := Lib.hid (show parseS s.data.toList = (Sc.zero, (k : Int) + 1, 4) by rw [HGo0.out, headS, HH.out, if_neg (by omega)]; simp only; rw [Hk0.out]; rfl)
                  clear ph
                  have HS5 := Lib.hid ((show Chg [] w1 w7 from HC7.out).has HX1.out nmN)
                  obtain ⟨x0, x1, x2, x3, x4⟩ := sc_all HS5.out
                  have z0 := sc_fz HS5.out 0; have z1 := sc_fz HS5.out 1; have z2 := sc_fz HS5.out 2; have z3 := sc_fz HS5.out 3; have z4 := sc_fz HS5.out 4
                  go_wp2_with fail
                  obtain ⟨W6, hW6⟩ : ∃ W6, ((((w7.setCell ⟨b, 0, none⟩ (.int .i64 0)).setCell ⟨b, 1, none⟩ (.int .i64 0)).setCell ⟨b, 2, none⟩ (.int .i64 0)).setCell ⟨b, 3, none⟩ (.string ⟨#[]⟩)).setCell ⟨b, 4, none⟩ (.slice none 0 0) = W6 := ⟨_, rfl⟩
                  have hB6 : W6.heap[b]? = some (.cells (scv Sc.zero (.slice none 0 0)) 24 (0, 0)) := by rw [← hW6]; exact put5_has HS5.out Sc.zero (.slice none 0 0)
                  have HCF := Lib.hid (show Chg [] w W6 by rw [← hW6]; exact (HC.out.trans (HC7.out)).put5 (Or.inr (Nat.le_of_eq Hb.out)) Sc.zero (.slice none 0 0))
                  obtain ⟨k0, k1, k2, k3, k4⟩ : W6.cell? ⟨b, 0, none⟩ = some (.int .i64 0) ∧ W6.cell? ⟨b, 1, none⟩ = some (.int .i64 0) ∧ W6.cell? ⟨b, 2, none⟩ = some (.int .i64 0) ∧ W6.cell? ⟨b, 3, none⟩ = some (.string ⟨#[]⟩) ∧ W6.cell? ⟨b, 4, none⟩ = some (.slice none 0 0) := sc_all hB6
                  rw [hW6, Exit.noGoto_ret]
                  clear hW6 hB6
                  exact bodyPost_ret (v := .tuple #[.agg (scv Sc.zero (.slice none 0 0)), .int .i64 ((k : Int) + 1), .int .i64 4]) (by simp [results, Tryd.results12, go_sem, scv, Sc.zero, k0, k1, k2, k3, k4]) rfl ⟨by rw [HR.out]; exact ⟨none, 0, rfl, fun h => absurd h (by simp [Sc.zero])⟩, HCF.out⟩
                · have g3 : decide ((60 : Int) < hd.seed.length) = false := decide_eq_false (by omega)
                  have HR := Lib.hid (show parseS s.data.toList = goS 1 hd (ls.drop (k + 1)) by rw [HGo0.out, headS, HH.out, if_pos ⟨ph, by omega⟩])
                  clear ph
                  go_wp2_with fail
                  go_roundg (ls.length - (k + 1))
                  case measure => have := HK.out; omega
                  case rel =>
                    refine ⟨k + 1, 0, 0, none, hd, by have := HK.out; omega, by omega, rfl, by go_num, HS7.out, ?_, by rw [HHl.out]; rfl, ?_, fun h => by omega, Nat.zero_le _, HC7.out⟩
                    · rw [HHl.out]; exact World.ownsRow_nil _ _ _ _
                    · rw [HR.out, Hk0.out]
          · have g0 : (headL hd != v) = true := by simpa using ph
            have g0b : (headL hd == v) = false := by simpa using ph
            have HR := Lib.hid (show parseS s.data.toList = (Sc.zero, (k : Int) + 1, 4) by rw [HGo0.out, headS, HH.out, if_neg (fun h => ph h.1)]; simp only; rw [Hk0.out]; rfl)
            clear ph
            have HS5 := Lib.hid ((show Chg [] w1 w7 from HC7.out).has HX1.out nmN)
            obtain ⟨x0, x1, x2, x3, x4⟩ := sc_all HS5.out
            have z0 := sc_fz HS5.out 0; have z1 := sc_fz HS5.out 1; have z2 := sc_fz HS5.out 2; have z3 := sc_fz HS5.out 3; have z4 := sc_fz HS5.out 4
            go_wp2_with fail
            obtain ⟨W6, hW6⟩ : ∃ W6, ((((w7.setCell ⟨b, 0, none⟩ (.int .i64 0)).setCell ⟨b, 1, none⟩ (.int .i64 0)).setCell ⟨b, 2, none⟩ (.int .i64 0)).setCell ⟨b, 3, none⟩ (.string ⟨#[]⟩)).setCell ⟨b, 4, none⟩ (.slice none 0 0) = W6 := ⟨_, rfl⟩
            have hB6 : W6.heap[b]? = some (.cells (scv Sc.zero (.slice none 0 0)) 24 (0, 0)) := by rw [← hW6]; exact put5_has HS5.out Sc.zero (.slice none 0 0)
            have HCF := Lib.hid (show Chg [] w W6 by rw [← hW6]; exact (HC.out.trans (HC7.out)).put5 (Or.inr (Nat.le_of_eq Hb.out)) Sc.zero (.slice none 0 0))
            obtain ⟨k0, k1, k2, k3, k4⟩ : W6.cell? ⟨b, 0, none⟩ = some (.int .i64 0) ∧ W6.cell? ⟨b, 1, none⟩ = some (.int .i64 0) ∧ W6.cell? ⟨b, 2, none⟩ = some (.int .i64 0) ∧ W6.cell? ⟨b, 3, none⟩ = some (.string ⟨#[]⟩) ∧ W6.cell? ⟨b, 4, none⟩ = some (.slice none 0 0) := sc_all hB6
            rw [hW6, Exit.noGoto_ret]
            clear hW6 hB6
            exact bodyPost_ret (v := .tuple #[.agg (scv Sc.zero (.slice none 0 0)), .int .i64 ((k : Int) + 1), .int .i64 4]) (by simp [results, Tryd.results12, go_sem, scv, Sc.zero, k0, k1, k2, k3, k4]) rfl ⟨by rw [HR.out]; exact ⟨none, 0, rfl, fun h => absurd h (by simp [Sc.zero])⟩, HCF.out⟩
      · have hk1 : 0 < k := by omega
        clear hk0
        have f4 : ((k : Int) == 0) = false := by rw [beq_eq_false_iff_ne]; omega
        have HGo0 := Lib.hid (show parseS s.data.toList = match choiceS v with | none => (Sc.zero, (k : Int) + 1, 4) | some x => if 500 ≤ sc.l.length then (Sc.zero, (k : Int) + 1, 2) else goS (k + 1) { sc with l := sc.l ++ [x] } (ls.drop (k + 1)) by rw [HGo.out, goS_line hk1 hr])
        have cc := choice_any ⟨v.toArray⟩ HVL.out wr HGr.out
        rw [show (⟨v.toArray⟩ : ByteArray).data.toList = v from rfl] at cc
        cases hch : choiceS v with
        | none =>
          rw [hch] at cc
          have HR := Lib.hid (show parseS s.data.toList = (Sc.zero, (k : Int) + 1, 4) by rw [HGo0.out, hch])
          have CC := Lib.hid cc
          clear cc hch hk1 hr
          go_wp2_with fail
          refine CC.out.mono ?_
          rintro e w5 ⟨⟨y5, rfl⟩, hC5⟩
          dsimp only [cv]
          have hA : Chg [] w1 (w5.alloc (.cells (cv y5) 61)) := (HCr.out.trans hC5).alloc _
          obtain ⟨W7, hW7⟩ : ∃ W7, w5.alloc (.cells (cv y5) 61) = W7 := ⟨_, rfl⟩
          rw [hW7] at hA
          have HC7 := Lib.hid hA; have HW7 := Lib.hid hW7
          clear hC5 hA hW7 q
          go_upto_region 21 with fail
          try rw [show w5.alloc (.cells #[.int .i64 y5.kind, .int .i64 y5.node, .int .i64 y5.n, .int .i64 y5.id, .int .i64 y5.mask, .string ⟨y5.m.toArray⟩] 61) = W7 from HW7.out]
          try rw [HW7.out]
          have HS5 := Lib.hid ((show Chg [] w1 W7 from HC7.out).has HX1.out nmN)
          obtain ⟨x0, x1, x2, x3, x4⟩ := sc_all HS5.out
          have z0 := sc_fz HS5.out 0; have z1 := sc_fz HS5.out 1; have z2 := sc_fz HS5.out 2; have z3 := sc_fz HS5.out 3; have z4 := sc_fz HS5.out 4
          go_wp2_with fail
          obtain ⟨W6, hW6⟩ : ∃ W6, ((((W7.setCell ⟨b, 0, none⟩ (.int .i64 0)).setCell ⟨b, 1, none⟩ (.int .i64 0)).setCell ⟨b, 2, none⟩ (.int .i64 0)).setCell ⟨b, 3, none⟩ (.string ⟨#[]⟩)).setCell ⟨b, 4, none⟩ (.slice none 0 0) = W6 := ⟨_, rfl⟩
          have hB6 : W6.heap[b]? = some (.cells (scv Sc.zero (.slice none 0 0)) 24 (0, 0)) := by rw [← hW6]; exact put5_has HS5.out Sc.zero (.slice none 0 0)
          have HCF := Lib.hid (show Chg [] w W6 by rw [← hW6]; exact (HC.out.trans (HC7.out)).put5 (Or.inr (Nat.le_of_eq Hb.out)) Sc.zero (.slice none 0 0))
          obtain ⟨k0, k1, k2, k3, k4⟩ : W6.cell? ⟨b, 0, none⟩ = some (.int .i64 0) ∧ W6.cell? ⟨b, 1, none⟩ = some (.int .i64 0) ∧ W6.cell? ⟨b, 2, none⟩ = some (.int .i64 0) ∧ W6.cell? ⟨b, 3, none⟩ = some (.string ⟨#[]⟩) ∧ W6.cell? ⟨b, 4, none⟩ = some (.slice none 0 0) := sc_all hB6
          rw [hW6, Exit.noGoto_ret]
          clear hW6 hB6
          exact bodyPost_ret (v := .tuple #[.agg (scv Sc.zero (.slice none 0 0)), .int .i64 ((k : Int) + 1), .int .i64 4]) (by simp [results, Tryd.results12, go_sem, scv, Sc.zero, k0, k1, k2, k3, k4]) rfl ⟨by rw [HR.out]; exact ⟨none, 0, rfl, fun h => absurd h (by simp [Sc.zero])⟩, HCF.out⟩
        | some x =>
          rw [hch] at cc
          have HG5 := Lib.hid (show parseS s.data.toList = if 500 ≤ sc.l.length then (Sc.zero, (k : Int) + 1, 2) else goS (k + 1) { sc with l := sc.l ++ [x] } (ls.drop (k + 1)) by rw [HGo0.out, hch])
          have CC := Lib.hid cc
          clear cc hch hk1 hr
          go_wp2_with fail
          refine CC.out.mono ?_
          rintro e w5 ⟨rfl, hC5⟩
          dsimp only [cv]
          have hA : Chg [] wr (w5.alloc (.cells (cv x) 61)) := hC5.alloc _
          obtain ⟨bX, hbX⟩ : ∃ b, w5.heap.size = b := ⟨_, rfl⟩
          obtain ⟨W7, hW7⟩ : ∃ W7, w5.alloc (.cells (cv x) 61) = W7 := ⟨_, rfl⟩
          have hBX : CB W7 bX x := by rw [← hW7, ← hbX]; exact has_alloc_new _ _
          rw [hW7] at hA
          have HC7 := Lib.hid (HCr.out.trans hA); have HW7 := Lib.hid hW7; have HbX := Lib.hid hbX; have HBX := Lib.hid hBX
          have HS7 := Lib.hid (hA.has HS.out nmN); have HOwn7 := Lib.hid (own_chg (S := []) HOwn.out hA (by simp))
          clear hC5 hA hW7 hbX hBX q
          go_upto_region 21 with fail
          try rw [show w5.alloc (.cells #[.int .i64 x.kind, .int .i64 x.node, .int .i64 x.n, .int .i64 x.id, .int .i64 x.mask, .string ⟨x.m.toArray⟩] 61) = W7 from HW7.out]
          try rw [HW7.out]
          try rw [HbX.out]
          obtain ⟨s0, s1, s2, s3, s4⟩ := sc_all HS7.out
          by_cases hfull : n = 500
          · have f6 : ((n : Int) == 500) = true := by rw [beq_iff_eq]; omega
            have HR := Lib.hid (show parseS s.data.toList = (Sc.zero, (k : Int) + 1, 2) by rw [HG5.out, if_pos (by rw [← HN.out]; omega)])
            clear hfull
            have HS5 := Lib.hid ((show Chg [] w1 W7 from HC7.out).has HX1.out nmN)
            obtain ⟨x0, x1, x2, x3, x4⟩ := sc_all HS5.out
            have z0 := sc_fz HS5.out 0; have z1 := sc_fz HS5.out 1; have z2 := sc_fz HS5.out 2; have z3 := sc_fz HS5.out 3; have z4 := sc_fz HS5.out 4
            go_wp2_with fail
            obtain ⟨W6, hW6⟩ : ∃ W6, ((((W7.setCell ⟨b, 0, none⟩ (.int .i64 0)).setCell ⟨b, 1, none⟩ (.int .i64 0)).setCell ⟨b, 2, none⟩ (.int .i64 0)).setCell ⟨b, 3, none⟩ (.string ⟨#[]⟩)).setCell ⟨b, 4, none⟩ (.slice none 0 0) = W6 := ⟨_, rfl⟩
            have hB6 : W6.heap[b]? = some (.cells (scv Sc.zero (.slice none 0 0)) 24 (0, 0)) := by rw [← hW6]; exact put5_has HS5.out Sc.zero (.slice none 0 0)
            have HCF := Lib.hid (show Chg [] w W6 by rw [← hW6]; exact (HC.out.trans (HC7.out)).put5 (Or.inr (Nat.le_of_eq Hb.out)) Sc.zero (.slice none 0 0))
            obtain ⟨k0, k1, k2, k3, k4⟩ : W6.cell? ⟨b, 0, none⟩ = some (.int .i64 0) ∧ W6.cell? ⟨b, 1, none⟩ = some (.int .i64 0) ∧ W6.cell? ⟨b, 2, none⟩ = some (.int .i64 0) ∧ W6.cell? ⟨b, 3, none⟩ = some (.string ⟨#[]⟩) ∧ W6.cell? ⟨b, 4, none⟩ = some (.slice none 0 0) := sc_all hB6
            rw [hW6, Exit.noGoto_ret]
            clear hW6 hB6
            exact bodyPost_ret (v := .tuple #[.agg (scv Sc.zero (.slice none 0 0)), .int .i64 ((k : Int) + 1), .int .i64 2]) (by simp [results, Tryd.results12, go_sem, scv, Sc.zero, k0, k1, k2, k3, k4]) rfl ⟨by rw [HR.out]; exact ⟨none, 0, rfl, fun h => absurd h (by simp [Sc.zero])⟩, HCF.out⟩
          · have f6 : ((n : Int) == 500) = false := by rw [beq_eq_false_iff_ne]; omega
            have HR := Lib.hid (show parseS s.data.toList = goS (k + 1) { sc with l := sc.l ++ [x] } (ls.drop (k + 1)) by rw [HG5.out, if_neg (by rw [← HN.out]; omega)])
            have HFull := Lib.hid hfull
            clear hfull
            obtain ⟨x0, x1, x2, x3, x4, x5⟩ := HBX.out.all
            have z4 := sc_fz HS7.out 4
            have hlt7 := lt_of_has HS7.out
            go_wp2_with (at_builtin; go_loud (refine wpList_push rfl _ _ 22 rfl elem_choice w1.heap.size rfl (HOwn7.out.alloc _) W7.heap.size (cv x) rfl rfl (has_alloc_new _ _) (by simp [cv, Value.oneCell']) (by omega) (by omega) (by have := HC7.out.size; simp; omega) ?_); intro v' w8 hown' hgrow _; obtain ⟨a8, cap8, rfl⟩ := own_shape hown'; have hS8 := grown_has hgrow (has_alloc HS7.out) (own_ne HOwn7.out HS7.out (by decide)); obtain ⟨s0, s1, s2, s3, s4⟩ := sc_all hS8; have z4 := sc_fz hS8 4; have HOwn8 := Lib.hid hown'; have HGrow := Lib.hid hgrow; have HS8 := Lib.hid hS8; clear hown' hgrow hS8)
            have hs9 := has_set HS8.out 4 (.slice a8 (n + 1) cap8)
            have hC9 : Chg [bS] w8 (w8.setCell ⟨bS, 4, none⟩ (.slice a8 (n + 1) cap8)) := (Chg.refl _ _).setCell (Or.inl (by simp)) _
            have hC10 : Chg [] w1 (w8.setCell ⟨bS, 4, none⟩ (.slice a8 (n + 1) cap8)) := ((HC7.out.alloc _).grown HGrow.out (fun b hb => Or.inr ((HOwn7.out.lt b hb).1))).setCell (Or.inr HLe.out) _
            have hne9 : ∀ b, (Value.slice a8 (n + 1) cap8).ownBlock = some b → b ∉ [bS] := fun b hb => by
              have h := own_ne HOwn8.out HS8.out (by decide)
              rw [hb] at h
              intro hm
              rw [List.mem_singleton.1 hm] at h
              exact h rfl
            have HOwn9 := Lib.hid (own_chg HOwn8.out hC9 hne9); have HS9 := Lib.hid hs9; have HC10 := Lib.hid hC10
            clear hs9 hC9 hC10 hne9
            go_roundg (ls.length - (k + 1))
            case measure => have := HK.out; omega
            case rel =>
              refine ⟨k + 1, n + 1, _, _, { sc with l := sc.l ++ [x] }, by have := HK.out; omega, by omega, rfl, by go_num, HS9.out, ?_, by have := HN.out; simp; omega, HR.out, fun h => by omega, by have := HFull.out; omega, HC10.out⟩
              show World.ownsRow _ _ _ _ _ _ (flatC (sc.l ++ [x]))
              rw [flatC_snoc]
              exact HOwn9.out

end Go.Proofs.YtkcfbacapaonaaaDoor
