/- A script's text: the walk of writ.Format. -/
import Derived.Test.YtkcfbacapaonaaaDoorWrM
namespace Go.Proofs.YtkcfbacapaonaaaDoor
set_option linter.unusedVariables false
set_option linter.unusedSimpArgs false
open Go.RowKit Go.Lib

/-- A slice value that reads as choices. -/
def ReadsC (w : World) (A : Option Addr) (xs : List Ch) : Prop := 0 < xs.length → ∃ b off, A = some ⟨b, off, none⟩ ∧ b < w.heap.size ∧ ∀ (i : Nat) x, xs[i]? = some x → ∀ c, c < 6 → w.cell? ⟨b, off + i * 6 + c, none⟩ = (cv x)[c]?
theorem ReadsC.chg {S : List Nat} {w w' : World} {A : Option Addr} {xs : List Ch} (h : ReadsC w A xs) (hc : Chg S w w') (hs : ∀ b off, A = some ⟨b, off, none⟩ → b ∉ S) : ReadsC w' A xs := fun hn => by
  obtain ⟨b, off, e, hb, hx⟩ := h hn
  exact ⟨b, off, e, Nat.lt_of_lt_of_le hb hc.size, fun i x hi c hcc => (World.cell?_of_block (hc.block b hb (hs b off e))).trans (hx i x hi c hcc)⟩
/-- Strings' cells. -/
def strs (xs : List (List UInt8)) : List Value := xs.map fun x => Value.string ⟨x.toArray⟩
theorem strs_snoc (xs : List (List UInt8)) (x : List UInt8) : strs (xs ++ [x]) = strs xs ++ [Value.string ⟨x.toArray⟩] := by simp [strs]
theorem elem_string : ElemOK Tryd.prog 63 9 (.string ⟨#[]⟩) 1 16 := ⟨Tryd.underlying63, by kernel_rfl, rfl, by decide⟩
/-- A slice literal is a row of the call's own. -/
theorem own_lit (w : World) (base : Nat) (e : TypeId) (x : Value) (h : base ≤ w.heap.size) : (w.alloc (.cells #[x] e)).ownsRow base e 1 (.slice (some ⟨w.heap.size, 0, none⟩) 1 1) 1 [x] :=
  ⟨rfl, .inr ⟨w.heap.size, 1, #[x], rfl, h, has_alloc_new _ _, Nat.le_refl _, by decide, rfl, rfl⟩⟩
theorem own_reads {w : World} {base n : Nat} {v : Value} {xs : List (List UInt8)} (h : w.ownsRow base 9 1 v n (strs xs)) (hn : 0 < n) : ∃ g cap, v = .slice (some ⟨g, 0, none⟩) n cap ∧ ReadsS w g 0 xs ∧ n ≤ cap ∧ xs.length = n := by
  have hl : xs.length = n := by have := h.1; simpa [strs] using this
  rcases h.2 with ⟨_, h0⟩ | ⟨g, cap, cur, rfl, hb, hg, h1, h2, h3, h4⟩
  · omega
  · refine ⟨g, cap, rfl, ⟨lt_of_has hg, fun j x hj => ?_⟩, h1, hl⟩
    have := h.cells (g := g) rfl j (.string ⟨x.toArray⟩) (by simp [strs, hj])
    rwa [addr_add0, ← Nat.zero_add j] at this
theorem join_len {sep : List UInt8} {m : Nat} : ∀ {ps : List (List UInt8)}, (∀ p ∈ ps, p.length ≤ m) → (join ps sep).length ≤ ps.length * (m + sep.length)
  | [], _ => by simp [join_nil]
  | p :: r, h => by
    have hp := h p (by simp)
    have : (joinTail sep r).length ≤ r.length * (m + sep.length) := by
      clear hp
      induction r with
      | nil => simp [joinTail]
      | cons q r ih =>
        have hq := h q (by simp)
        have := ih (fun x hx => h x (by
          rcases List.mem_cons.1 hx with e | e
          · simp [e]
          · simp [e]))
        simp only [joinTail, List.map_cons, List.flatten_cons, List.length_append, List.length_cons] at this ⊢
        rw [Nat.succ_mul]
        omega
    rw [join_cons, List.length_append, List.length_cons, Nat.succ_mul]
    omega
theorem line_len {x : Ch} (hx : x.ok) (hm : x.m.length ≤ 1000000) : (lineL x).length ≤ 6000013 := by
  have h1 := wordL_len x.kind
  have h2 := tailL_len hx hm (namesL x.kind)
  have h3 := namesL_len x.kind
  unfold lineL
  rw [List.length_append]
  omega
def FmtOut (r : List UInt8 × Int) (e : Ending) : Prop := e = .returned (.tuple #[.string ⟨r.1.toArray⟩, .int .i64 r.2])

set_option maxRecDepth 100000 in
set_option maxHeartbeats 16000000 in
theorem format_any {s : Sc} {A : Option Addr} {cap : Nat} (hs : s.ok) (hm : s.seed.length ≤ 1000000) (hl : ∀ x ∈ s.l, x.m.length ≤ 1000000) (h63 : s.l.length ≤ 9223372036854775807) (w : World) (hg : GW w) (hR : ReadsC w A s.l) :
    Calls Tryd.prog 9 #[.agg (scv s (.slice A s.l.length cap))] w fun e w' => FmtOut (formatS s) e ∧ Chg [] w w' := by
  obtain ⟨b, hb⟩ : ∃ b, w.heap.size = b := ⟨_, rfl⟩
  obtain ⟨W1, hW1⟩ : ∃ W1, w.alloc (.cells (scv s (.slice A s.l.length cap)) 24) = W1 := ⟨_, rfl⟩
  have hX : W1.heap[b]? = some (.cells (scv s (.slice A s.l.length cap)) 24 (0, 0)) := by rw [← hW1, ← hb]; exact has_alloc_new _ _
  have hC1 : Chg [] w W1 := by rw [← hW1]; exact (Chg.refl _ _).alloc _
  obtain ⟨x0, x1, x2, x3, x4⟩ := sc_all hX
  have HX := Lib.hid hX; have HC1 := Lib.hid hC1; have HG := Lib.hid (hg.chg hC1); have HW1 := Lib.hid hW1; have Hb := Lib.hid hb
  have HR := Lib.hid (hR.chg hC1 (by simp)); have HS := Lib.hid hs; have HLen := Lib.hid hl
  clear hX hC1 hg hW1 hb hR hs hl
  by_cases q1 : 500 < s.l.length
  · have f1 : decide ((500 : Int) < s.l.length) = true := decide_eq_true (by omega)
    have HF := Lib.hid (show formatS s = ([], 2) by unfold formatS; rw [if_pos (Or.inl q1)])
    go_enter Tryd.func9, Tryd.ntmps9
    go_upto_region 1 with fail
    try rw [show (w.alloc (.cells (scv s (.slice A s.l.length cap)) 24)) = W1 from HW1.out]
    try rw [Hb.out]
    go_wp2_with fail
    go_ret2
    exact ⟨by rw [HF.out]; rfl, HC1.out⟩
  · have f1 : decide ((500 : Int) < s.l.length) = false := decide_eq_false (by omega)
    by_cases q2 : 60 < s.seed.length
    · have f2 : decide ((60 : Int) < s.seed.length) = true := decide_eq_true (by omega)
      have HF := Lib.hid (show formatS s = ([], 2) by unfold formatS; rw [if_pos (Or.inr q2)])
      go_enter Tryd.func9, Tryd.ntmps9
      go_upto_region 1 with fail
      try rw [show (w.alloc (.cells (scv s (.slice A s.l.length cap)) 24)) = W1 from HW1.out]
      try rw [Hb.out]
      go_wp2_with fail
      go_ret2
      exact ⟨by rw [HF.out]; rfl, HC1.out⟩
    · have f2 : decide ((60 : Int) < s.seed.length) = false := decide_eq_false (by omega)
      by_cases q3 : s.odd < 0 ∨ 1023 < s.odd
      · have HF := Lib.hid (show formatS s = ([], 4) by unfold formatS; rw [if_neg (by omega), if_pos q3])
        by_cases q4 : s.odd < 0
        · have f3 : decide (s.odd < 0) = true := decide_eq_true q4
          go_enter Tryd.func9, Tryd.ntmps9
          go_upto_region 1 with fail
          try rw [show (w.alloc (.cells (scv s (.slice A s.l.length cap)) 24)) = W1 from HW1.out]
          try rw [Hb.out]
          go_wp2_with fail
          go_ret2
          exact ⟨by rw [HF.out]; rfl, HC1.out⟩
        · have f3 : decide (s.odd < 0) = false := decide_eq_false q4
          have f4 : decide (1023 < s.odd) = true := decide_eq_true (by omega)
          go_enter Tryd.func9, Tryd.ntmps9
          go_upto_region 1 with fail
          try rw [show (w.alloc (.cells (scv s (.slice A s.l.length cap)) 24)) = W1 from HW1.out]
          try rw [Hb.out]
          go_wp2_with fail
          go_ret2
          exact ⟨by rw [HF.out]; rfl, HC1.out⟩
      · have f3 : decide (s.odd < 0) = false := decide_eq_false (by omega)
        have f4 : decide (1023 < s.odd) = false := decide_eq_false (by omega)
        have HF := Lib.hid (show formatS s = if ∀ x ∈ s.l, lineOk' x then (join (headL s :: s.l.map lineL) [10] ++ [10], 0) else ([], 4) by unfold formatS; rw [if_neg (by omega), if_neg q3])
        have c1 := fun w hg => head_any s (.slice A s.l.length cap) rfl HS.out hm w hg
        simp only [scv] at c1
        have C1 := Lib.hid c1
        clear c1 q3
        have hl500 : s.l.length ≤ 500 := by omega
        have hhd : (headL s).length ≤ 3000000 := headPs_len HS.out hm
        go_enter Tryd.func9, Tryd.ntmps9
        go_upto_region 1 with fail
        try rw [show (w.alloc (.cells (scv s (.slice A s.l.length cap)) 24)) = W1 from HW1.out]
        try rw [Hb.out]
        go_wp2_with fail
        refine (C1.out _ HG.out).mono ?_
        rintro e w1 ⟨rfl, hC⟩
        have hA : Chg [] W1 (w1.alloc (.cells #[.string ⟨(headL s).toArray⟩] 9)) := hC.alloc _
        have hO := own_lit w1 W1.heap.size 9 (.string ⟨(headL s).toArray⟩) hC.size
        obtain ⟨W2, hW2⟩ : ∃ W2, w1.alloc (.cells #[.string ⟨(headL s).toArray⟩] 9) = W2 := ⟨_, rfl⟩
        obtain ⟨b2, hb2⟩ : ∃ b, w1.heap.size = b := ⟨_, rfl⟩
        rw [hW2] at hA hO
        rw [hb2] at hO
        have HA := Lib.hid hA; have HO := Lib.hid hO; have HW2 := Lib.hid hW2; have Hb2 := Lib.hid hb2
        clear hC hA hO hW2 hb2 x0 x1 x2 x3 x4
        go_upto_region 6 with fail
        try rw [HW2.out]
        try rw [Hb2.out]
        obtain ⟨x0, x1, x2, x3, x4⟩ := sc_all (HA.out.has HX.out nmN)
        go_wp2_with fail
        clear x0 x1 x2 x3 x4
        go_loopg [4, 6, 7, 8, 35] s.l.length (fun g o _ _ _ i wr => ∃ (k cap' : Nat) (A' : Option Addr), g + k = s.l.length ∧ i = .int .i64 k ∧ o = .slice A' (k + 1) cap' ∧ wr.ownsRow W1.heap.size 9 1 (.slice A' (k + 1) cap') (k + 1) (strs (headL s :: (s.l.take k).map lineL)) ∧ (∀ x ∈ s.l.take k, lineOk' x) ∧ Chg [] W1 wr)
        case atStart => exact ⟨0, 1, some ⟨b2, 0, none⟩, rfl, rfl, rfl, HO.out, by simp, HA.out⟩
        case round =>
          obtain ⟨k, cap', A', hk, rfl, rfl, hown, hok, hC⟩ := hrel
          by_cases hlt : k < s.l.length
          · obtain ⟨bl, off, rfl, hbl, hcell⟩ := (HR.out.chg hC (by simp)) (by omega)
            obtain ⟨x, hx⟩ : ∃ x, s.l[k] = x := ⟨_, rfl⟩
            have hxk : s.l[k]? = some x := by rw [List.getElem?_eq_getElem hlt, hx]
            have hxm : x ∈ s.l := by rw [← hx]; exact List.getElem_mem hlt
            have htk : s.l.take (k + 1) = s.l.take k ++ [x] := by rw [List.take_succ_eq_append_getElem hlt, hx]
            have k0 : wr.cell? ⟨bl, off + k * 6, none⟩ = some (.int .i64 x.kind) := hcell k x hxk 0 (by decide)
            have k1 : wr.cell? ⟨bl, off + k * 6 + 1, none⟩ = some (.int .i64 x.node) := hcell k x hxk 1 (by decide)
            have k2 : wr.cell? ⟨bl, off + k * 6 + 2, none⟩ = some (.int .i64 x.n) := hcell k x hxk 2 (by decide)
            have k3 : wr.cell? ⟨bl, off + k * 6 + 3, none⟩ = some (.int .i64 x.id) := hcell k x hxk 3 (by decide)
            have k4 : wr.cell? ⟨bl, off + k * 6 + 4, none⟩ = some (.int .i64 x.mask) := hcell k x hxk 4 (by decide)
            have k5 : wr.cell? ⟨bl, off + k * 6 + 5, none⟩ = some (.string ⟨x.m.toArray⟩) := hcell k x hxk 5 (by decide)
            have HT := Lib.hid htk; have HC := Lib.hid hC; have HOwn := Lib.hid hown; have HOk := Lib.hid hok; have HK := Lib.hid hk; have HXM := Lib.hid hxm
            obtain ⟨b3, hb3⟩ : ∃ b, wr.heap.size = b := ⟨_, rfl⟩
            obtain ⟨W3, hW3⟩ : ∃ W3, wr.alloc (.cells (cv x) 61) = W3 := ⟨_, rfl⟩
            have hB3 : CB W3 b3 x := by rw [← hW3, ← hb3]; exact has_alloc_new _ _
            have hC3 : Chg [] wr W3 := by rw [← hW3]; exact (Chg.refl _ _).alloc _
            have cl0 := line_any x (HS.out.2.2.2 x hxm) (HLen.out x hxm)
            simp only [cv] at cl0
            have cl := Lib.hid cl0
            clear cl0
            have HB3 := Lib.hid hB3; have HC3 := Lib.hid hC3; have HW3 := Lib.hid hW3; have Hb3 := Lib.hid hb3
            clear hcell hx hxk hxm htk hC hown hok hk hB3 hC3 hW3 hb3
            go_upto_region 9 with fail
            try rw [show wr.alloc (.cells #[.int .i64 x.kind, .int .i64 x.node, .int .i64 x.n, .int .i64 x.id, .int .i64 x.mask, .string ⟨x.m.toArray⟩] 61) = W3 from HW3.out]
            try rw [Hb3.out]
            clear k0 k1 k2 k3 k4 k5
            obtain ⟨k0, k1, k2, k3, k4, k5⟩ := HB3.out.all
            go_wp2_with fail
            refine (cl.out _ (HG.out.chg (HC.out.trans HC3.out))).mono ?_
            rintro e w4 ⟨rfl, hC4⟩
            have HC4 := Lib.hid ((HC.out.trans HC3.out).trans hC4)
            have HOwn4 := Lib.hid (own_chg (S := []) (own_chg (S := []) HOwn.out HC3.out (by simp)) hC4 (by simp))
            clear hC4 k0 k1 k2 k3 k4 k5
            by_cases hlo : lineOk' x
            · rw [decide_eq_true hlo]
              have HLo := Lib.hid hlo
              clear hlo
              go_wp2_with (at_builtin; go_loud (refine wpList_push rfl _ _ 63 rfl elem_string W1.heap.size rfl (HOwn4.out.alloc _) w4.heap.size #[.string ⟨(lineL x).toArray⟩] rfl rfl (has_alloc_new _ _) (by simp [Value.oneCell']) (by omega) (by omega) (by have := HC4.out.size; simp; omega) ?_); intro v' w5 hown' hgrow _; obtain ⟨a5, cap5, rfl⟩ := own_shape hown'; have HOwn5 := Lib.hid hown'; have HGrow := Lib.hid hgrow; clear hown' hgrow)
              go_roundg (s.l.length - (k + 1))
              case measure => have := HK.out; omega
              case rel =>
                refine ⟨k + 1, _, _, by have := HK.out; omega, by go_num, rfl, ?_, ?_, (HC4.out.alloc _).grown HGrow.out (fun b hb => Or.inr ((HOwn4.out.lt b hb).1))⟩
                · have h := HOwn5.out
                  rw [HT.out, List.map_append]
                  show World.ownsRow _ _ _ _ _ _ (strs ((headL s :: (s.l.take k).map lineL) ++ [lineL x]))
                  rw [strs_snoc]
                  exact h
                · rw [HT.out]
                  intro y hy
                  rcases List.mem_append.1 hy with hy | hy
                  · exact HOk.out y hy
                  · rw [List.mem_singleton.1 hy]; exact HLo.out
            · rw [decide_eq_false hlo]
              have HF2 := Lib.hid (show formatS s = ([], 4) by rw [HF.out, if_neg (fun h => hlo (h x HXM.out))])
              clear hlo
              go_wp2_with fail
              go_ret2
              exact ⟨by rw [HF2.out]; rfl, HC1.out.trans HC4.out⟩
          · obtain rfl : k = s.l.length := by omega
            have e : s.l.take s.l.length = s.l := List.take_of_length_le (Nat.le_refl _)
            rw [e] at hown hok
            obtain ⟨g, cap9, hv, hRS, hcap, hlen⟩ := own_reads hown (by omega)
            injection hv with hv1 hv2 hv3
            subst hv1; subst hv3
            have HF2 := Lib.hid (show formatS s = (join (headL s :: s.l.map lineL) [10] ++ [10], 0) by rw [HF.out, if_pos hok])
            have hjl : (join (headL s :: s.l.map lineL) [10]).length ≤ 10000000000 := by
              have := join_len (sep := [10]) (m := 6000013) (ps := headL s :: s.l.map lineL) (fun p hp => by
                rcases List.mem_cons.1 hp with rfl | hp
                · omega
                · obtain ⟨y, hy, rfl⟩ := List.mem_map.1 hp
                  exact line_len (HS.out.2.2.2 y hy) (HLen.out y hy))
              rw [List.length_cons, List.length_map] at this
              have h2 : (s.l.length + 1) * (6000013 + [10].length) ≤ 501 * (6000013 + 1) := Nat.mul_le_mul_right _ (by omega)
              omega
            have cj := Lib.hid (join_any (b := g) (o := 0) (c := cap') (sep := ⟨#[10]⟩) wr hRS hlen hcap (by omega) (by show (join (headL s :: s.l.map lineL) [10]).length ≤ _; omega))
            have HC := Lib.hid hC
            have a1 : ∀ w, (Op.stringOp .add ⟨(join (headL s :: s.l.map lineL) [10]).toArray⟩ ⟨#[10]⟩).run Tryd.prog w = .ok (.string ⟨(join (headL s :: s.l.map lineL) [10] ++ [10]).toArray⟩) w := fun w => str_op (a := join (headL s :: s.l.map lineL) [10]) (b := [10]) (by simp; omega) w
            clear hown hok hRS hlen hcap hC hjl hk e
            go_wp2_with fail
            refine cj.out.mono ?_
            rintro e w4 ⟨rfl, hC4⟩
            have HC4 := Lib.hid (HC.out.trans hC4)
            clear hC4
            go_wp2_with fail
            go_ret2
            exact ⟨by rw [HF2.out]; rfl, HC1.out.trans HC4.out⟩

end Go.Proofs.YtkcfbacapaonaaaDoor
