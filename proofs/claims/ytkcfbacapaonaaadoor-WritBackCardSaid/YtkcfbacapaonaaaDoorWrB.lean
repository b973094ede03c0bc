/- Scripts as text, in plain Lean, second part: choices, lines, scripts; there and back. -/
import Derived.Test.YtkcfbacapaonaaaDoorWrA
namespace Go.Proofs.YtkcfbacapaonaaaDoor
set_option linter.unusedVariables false
set_option linter.unusedSimpArgs false
open Go.Lib

structure Ch where
  kind : Int
  node : Int
  n : Int
  id : Int
  mask : Int
  m : List UInt8
  deriving DecidableEq
def Ch.ok (x : Ch) : Prop := In64 x.kind ∧ In64 x.node ∧ In64 x.n ∧ In64 x.id ∧ In64 x.mask
def Ch.of (k : Int) : Ch := ⟨k, 0, 0, 0, 0, []⟩
theorem Ch.of_ok {k : Int} (h : In64 k) : (Ch.of k).ok := ⟨h, in64_zero, in64_zero, in64_zero, in64_zero⟩

def wordL (k : Int) : List UInt8 :=
  if k = 1 then [115, 117, 98, 109, 105, 116] else if k = 2 then [116, 105, 99, 107] else if k = 3 then [100, 101, 108, 105, 118, 101, 114]
  else if k = 4 then [108, 111, 115, 101] else if k = 5 then [97, 103, 97, 105, 110] else if k = 6 then [100, 111, 119, 110]
  else if k = 7 then [115, 116, 97, 114, 116] else if k = 8 then [102, 117, 115, 101] else if k = 9 then [102, 111, 114, 103, 101]
  else if k = 10 then [114, 111, 117, 110, 100] else []
def namesL (k : Int) : List UInt8 :=
  if k = 1 then [110, 105, 116] else if k = 2 then [110] else if k = 3 then [107] else if k = 4 then [107] else if k = 5 then [107]
  else if k = 6 then [110, 107, 109] else if k = 7 then [110] else if k = 8 then [110, 107] else if k = 9 then [110, 107, 116]
  else if k = 10 then [107] else []
/-- A kind is one of ten, or it has neither word nor names. -/
theorem kind_cases (k : Int) : (k = 1 ∨ k = 2 ∨ k = 3 ∨ k = 4 ∨ k = 5 ∨ k = 6 ∨ k = 7 ∨ k = 8 ∨ k = 9 ∨ k = 10) ∨ (wordL k = [] ∧ namesL k = [] ∧ ¬ (1 ≤ k ∧ k ≤ 10)) := by
  by_cases h : 1 ≤ k ∧ k ≤ 10
  · left; omega
  · right
    have h1 : k ≠ 1 := by omega
    have h2 : k ≠ 2 := by omega
    have h3 : k ≠ 3 := by omega
    have h4 : k ≠ 4 := by omega
    have h5 : k ≠ 5 := by omega
    have h6 : k ≠ 6 := by omega
    have h7 : k ≠ 7 := by omega
    have h8 : k ≠ 8 := by omega
    have h9 : k ≠ 9 := by omega
    have h10 : k ≠ 10 := by omega
    exact ⟨by simp [wordL, h1, h2, h3, h4, h5, h6, h7, h8, h9, h10], by simp [namesL, h1, h2, h3, h4, h5, h6, h7, h8, h9, h10], h⟩

def getI (x : Ch) (c : UInt8) : Int := if c = 110 then x.node else if c = 107 then x.n else if c = 105 then x.id else x.mask
def setI (y : Ch) (c : UInt8) (v : Int) : Ch := if c = 110 then { y with node := v } else if c = 107 then { y with n := v } else if c = 105 then { y with id := v } else { y with mask := v }
/-- One field copied. -/
def cp (x y : Ch) (c : UInt8) : Ch := if c = 116 then { y with m := x.m } else setI y c (getI x c)
def fieldL (x : Ch) (c : UInt8) : List UInt8 := if c = 116 then hexL x.m else itoa (getI x c)
def tailL (x : Ch) (cs : List UInt8) : List UInt8 := cs.flatMap fun c => 32 :: fieldL x c
def lineL (x : Ch) : List UInt8 := wordL x.kind ++ tailL x (namesL x.kind)
def projC (x : Ch) : Ch := (namesL x.kind).foldl (cp x) (Ch.of x.kind)
def lineOk' (x : Ch) : Prop := wordL x.kind ≠ [] ∧ x = projC x
instance (x : Ch) : Decidable (lineOk' x) := inferInstanceAs (Decidable (_ ∧ _))

theorem getI_in {x : Ch} (h : x.ok) (c : UInt8) : In64 (getI x c) := by
  obtain ⟨h0, h1, h2, h3, h4⟩ := h
  unfold getI
  split
  · exact h1
  · split
    · exact h2
    · split
      · exact h3
      · exact h4
theorem setI_ok {y : Ch} (h : y.ok) (c : UInt8) {v : Int} (hv : In64 v) : (setI y c v).ok := by
  obtain ⟨h0, h1, h2, h3, h4⟩ := h
  unfold setI
  split
  · exact ⟨h0, hv, h2, h3, h4⟩
  · split
    · exact ⟨h0, h1, hv, h3, h4⟩
    · split
      · exact ⟨h0, h1, h2, hv, h4⟩
      · exact ⟨h0, h1, h2, h3, hv⟩
theorem line_join (x : Ch) : lineL x = join (wordL x.kind :: (namesL x.kind).map (fieldL x)) [32] := by
  rw [join_cons, lineL]
  congr 1
  unfold tailL joinTail
  rw [List.map_map, List.flatMap_def]
  rfl

/-! A choice of a line. -/
def fillC (y : Ch) : List UInt8 → List (List UInt8) → Ch
  | c :: cs, w :: ws => fillC (if c = 116 then { y with m := unhexL w } else setI y c (numV w)) cs ws
  | _, _ => y
/-- The same, each word asked whether it is written so. -/
def strictC (y : Ch) : List UInt8 → List (List UInt8) → Option Ch
  | [], [] => some y
  | c :: cs, w :: ws => if c = 116 then (txtS w).bind fun v => strictC { y with m := v } cs ws else (numS w).bind fun n => strictC (setI y c n) cs ws
  | _, _ => none
def kindOf (w : List UInt8) : Int :=
  if w = wordL 1 then 1 else if w = wordL 2 then 2 else if w = wordL 3 then 3 else if w = wordL 4 then 4 else if w = wordL 5 then 5
  else if w = wordL 6 then 6 else if w = wordL 7 then 7 else if w = wordL 8 then 8 else if w = wordL 9 then 9 else if w = wordL 10 then 10 else 0
/-- The choice that a line is. -/
def choiceS (t : List UInt8) : Option Ch :=
  if kindOf ((parts 32 t).headD []) = 0 then none else strictC (Ch.of (kindOf ((parts 32 t).headD []))) (namesL (kindOf ((parts 32 t).headD []))) (parts 32 t).tail

theorem kindOf_word {k : Int} (h : 1 ≤ k ∧ k ≤ 10) : kindOf (wordL k) = k := by
  have : k = 1 ∨ k = 2 ∨ k = 3 ∨ k = 4 ∨ k = 5 ∨ k = 6 ∨ k = 7 ∨ k = 8 ∨ k = 9 ∨ k = 10 := by omega
  rcases this with rfl | rfl | rfl | rfl | rfl | rfl | rfl | rfl | rfl | rfl <;> decide
theorem kindOf_in (w : List UInt8) : kindOf w = 0 ∨ (1 ≤ kindOf w ∧ kindOf w ≤ 10 ∧ wordL (kindOf w) = w) := by
  unfold kindOf
  repeat' split
  all_goals first | (left; rfl) | (right; rename_i h; exact ⟨by omega, by omega, h.symm⟩)
/-- A kind's word stands for no other kind. -/
theorem word_kind {k : Int} {w : List UInt8} (h : 1 ≤ k ∧ k ≤ 10) : wordL k = w ↔ kindOf w = k := by
  constructor
  · intro e; rw [← e]; exact kindOf_word h
  · intro e
    rcases kindOf_in w with h0 | ⟨_, _, h1⟩
    · omega
    · rw [← e]; exact h1
theorem word_no {k : Int} {c : UInt8} (h : c.toNat < 45) : c ∉ wordL k := by
  rcases kind_cases k with h1 | ⟨h1, _, _⟩
  · rcases h1 with rfl | rfl | rfl | rfl | rfl | rfl | rfl | rfl | rfl | rfl <;>
    · intro hm
      simp [wordL] at hm
      rcases hm with rfl | rfl | rfl | rfl | rfl | rfl | rfl <;> simp at h
  · rw [h1]; simp
theorem field_no {x : Ch} {c b : UInt8} (h : c.toNat < 45) : c ∉ fieldL x b := by
  unfold fieldL
  split
  · exact hexL_no h
  · exact itoa_no h
theorem pieces_no {x : Ch} {c : UInt8} (h : c.toNat < 45) : ∀ p ∈ wordL x.kind :: (namesL x.kind).map (fieldL x), c ∉ p := by
  intro p hp
  rcases List.mem_cons.1 hp with rfl | hp
  · exact word_no h
  · obtain ⟨b, _, rfl⟩ := List.mem_map.1 hp
    exact field_no h
theorem line_no (x : Ch) : (10 : UInt8) ∉ lineL x := by
  unfold lineL tailL
  intro hm
  rcases List.mem_append.1 hm with hm | hm
  · exact word_no (by decide) hm
  · obtain ⟨b, _, hb⟩ := List.mem_flatMap.1 hm
    rcases List.mem_cons.1 hb with hb | hb
    · cases hb
    · exact field_no (by decide) hb
theorem parts_line (x : Ch) : parts 32 (lineL x) = wordL x.kind :: (namesL x.kind).map (fieldL x) := by
  rw [line_join]
  exact parts_join (by simp) (pieces_no (by decide))

theorem ws0 {α : Type} {l : List α} (h : l.length = 0) : l = [] := List.length_eq_zero_iff.1 h
theorem ws1 {α : Type} {l : List α} (h : l.length = 1) : ∃ a, l = [a] := List.length_eq_one_iff.1 h
theorem ws2 {α : Type} {l : List α} (h : l.length = 2) : ∃ a b, l = [a, b] := by
  match l, h with
  | [a, b], _ => exact ⟨a, b, rfl⟩
theorem ws3 {α : Type} {l : List α} (h : l.length = 3) : ∃ a b c, l = [a, b, c] := by
  match l, h with
  | [a, b, c], _ => exact ⟨a, b, c, rfl⟩

theorem fill_kind (y : Ch) : ∀ (cs : List UInt8) (ws : List (List UInt8)), (fillC y cs ws).kind = y.kind
  | [], ws => by cases ws <;> rfl
  | c :: cs, [] => rfl
  | c :: cs, w :: ws => by
    rw [fillC, fill_kind _ cs ws]
    split
    · rfl
    · unfold setI; repeat' split
      all_goals rfl
theorem strict_fill {y x : Ch} : ∀ {cs : List UInt8} {ws : List (List UInt8)}, strictC y cs ws = some x → fillC y cs ws = x ∧ ws.length = cs.length
  | [], [], h => by injection h with h; exact ⟨h, rfl⟩
  | [], _ :: _, h => by cases h
  | _ :: _, [], h => by cases h
  | c :: cs, w :: ws, h => by
    rw [strictC] at h
    rw [fillC]
    split at h
    · rename_i hc
      obtain ⟨v, hv, h⟩ := Option.bind_eq_some_iff.1 h
      obtain ⟨_, rfl⟩ := txtS_some hv
      rw [if_pos hc]
      have := strict_fill h
      exact ⟨this.1, by simp [this.2]⟩
    · rename_i hc
      obtain ⟨v, hv, h⟩ := Option.bind_eq_some_iff.1 h
      obtain ⟨_, _, rfl⟩ := numS_some hv
      rw [if_neg hc]
      have := strict_fill h
      exact ⟨this.1, by simp [this.2]⟩
theorem setI_at {y : Ch} {v : Int} (c : UInt8) : getI (setI y c v) c = v := by
  unfold getI setI
  by_cases h1 : c = 110
  · simp [h1]
  · by_cases h2 : c = 107
    · simp [h2]
    · by_cases h3 : c = 105
      · simp [h3]
      · simp [h1, h2, h3]
/-- Of ten kinds each: what is filled in is a choice with a line. -/
theorem fill_ok {k : Int} (h : 1 ≤ k ∧ k ≤ 10) {ws : List (List UInt8)} (hl : ws.length = (namesL k).length) :
    lineOk' (fillC (Ch.of k) (namesL k) ws) ∧ ((namesL k).map (fieldL (fillC (Ch.of k) (namesL k) ws)) = ws ↔ strictC (Ch.of k) (namesL k) ws = some (fillC (Ch.of k) (namesL k) ws)) := by
  have : k = 1 ∨ k = 2 ∨ k = 3 ∨ k = 4 ∨ k = 5 ∨ k = 6 ∨ k = 7 ∨ k = 8 ∨ k = 9 ∨ k = 10 := by omega
  have hw : ∀ {k : Int} {ws : List (List UInt8)}, wordL k ≠ [] → wordL (fillC (Ch.of k) (namesL k) ws).kind ≠ [] := fun h => by rw [fill_kind]; exact h
  rcases this with rfl | rfl | rfl | rfl | rfl | rfl | rfl | rfl | rfl | rfl
  all_goals
    refine ⟨⟨hw (by decide), ?_⟩, ?_⟩
    · first
        | (obtain ⟨a, b, c, rfl⟩ := ws3 hl; rfl)
        | (obtain ⟨a, b, rfl⟩ := ws2 hl; rfl)
        | (obtain ⟨a, rfl⟩ := ws1 hl; rfl)
    · first
        | (obtain ⟨a, b, c, rfl⟩ := ws3 hl; simp [namesL, fillC, strictC, setI, Ch.of, fieldL, getI, numS, txtS]; by_cases h1 : itoa (numV a) = a <;> by_cases h2 : itoa (numV b) = b <;> by_cases h3 : itoa (numV c) = c <;> by_cases h4 : hexL (unhexL c) = c <;> simp [h1, h2, h3, h4])
        | (obtain ⟨a, b, rfl⟩ := ws2 hl; simp [namesL, fillC, strictC, setI, Ch.of, fieldL, getI, numS]; by_cases h1 : itoa (numV a) = a <;> by_cases h2 : itoa (numV b) = b <;> simp [h1, h2])
        | (obtain ⟨a, rfl⟩ := ws1 hl; simp [namesL, fillC, strictC, setI, Ch.of, fieldL, getI, numS]; by_cases h1 : itoa (numV a) = a <;> simp [h1])
theorem head_tail {α : Type} {l : List α} (d : α) (h : l ≠ []) : l = l.headD d :: l.tail := by
  cases l with
  | nil => exact absurd rfl h
  | cons => rfl
/-- THE PROGRAM's WAY: the loose choice's own line is the text just if the words are written so. -/
theorem fill_line {t : List UInt8} {k : Int} (h : 1 ≤ k ∧ k ≤ 10) (hw : wordL k = (parts 32 t).headD []) (hl : (parts 32 t).length = 1 + (namesL k).length) :
    lineL (fillC (Ch.of k) (namesL k) (parts 32 t).tail) = t ↔ choiceS t = some (fillC (Ch.of k) (namesL k) (parts 32 t).tail) := by
  have hp := head_tail [] (parts_ne 32 t)
  have hj := join_parts 32 t
  have hm : ∀ p ∈ parts 32 t, (32 : UInt8) ∉ p := fun p hp => parts_mem hp
  have hk : kindOf ((parts 32 t).headD []) = k := (word_kind h).1 hw
  have hl' : (parts 32 t).tail.length = (namesL k).length := by rw [List.length_tail]; omega
  have hf := (fill_ok h hl').2
  unfold choiceS
  rw [hk, if_neg (by omega), ← hf]
  constructor
  · intro e
    have e2 : parts 32 (lineL (fillC (Ch.of k) (namesL k) (parts 32 t).tail)) = parts 32 t := by rw [e]
    rw [parts_line, fill_kind] at e2
    have := congrArg List.tail e2
    exact this
  · intro e
    rw [line_join, fill_kind]
    show join (wordL k :: (namesL k).map _) [32] = t
    rw [e, hw, ← hp, hj]
theorem choice_some {t : List UInt8} {x : Ch} (h : choiceS t = some x) : ∃ k, 1 ≤ k ∧ k ≤ 10 ∧ wordL k = (parts 32 t).headD [] ∧ (parts 32 t).length = 1 + (namesL k).length ∧ x = fillC (Ch.of k) (namesL k) (parts 32 t).tail := by
  unfold choiceS at h
  rcases kindOf_in ((parts 32 t).headD []) with h0 | ⟨h1, h2, h3⟩
  · rw [if_pos h0] at h; cases h
  · rw [if_neg (by omega)] at h
    have := strict_fill h
    have hp := head_tail [] (parts_ne 32 t)
    refine ⟨_, h1, h2, h3, ?_, this.1.symm⟩
    have h8 : (parts 32 t).length = (parts 32 t).tail.length + 1 := by have := congrArg List.length hp; simpa using this
    have h9 : (parts 32 t).tail.length = (namesL (kindOf ((parts 32 t).headD []))).length := this.2
    omega
theorem fill_in {y : Ch} : ∀ {cs : List UInt8} {ws : List (List UInt8)}, y.ok → (fillC y cs ws).ok
  | [], ws, h => by cases ws <;> exact h
  | c :: cs, [], h => h
  | c :: cs, w :: ws, h => by
    rw [fillC]
    refine fill_in ?_
    split
    · exact h
    · exact setI_ok h c (numV_in w)
theorem line_choice {t : List UInt8} {x : Ch} (h : choiceS t = some x) : lineL x = t ∧ lineOk' x ∧ x.ok := by
  obtain ⟨k, h1, h2, h3, h4, rfl⟩ := choice_some h
  refine ⟨(fill_line ⟨h1, h2⟩ h3 h4).2 h, (fill_ok ⟨h1, h2⟩ (by rw [List.length_tail]; omega)).1, fill_in (Ch.of_ok (by unfold In64; omega))⟩
/-- There: a choice's line is the choice. -/
theorem choice_line {x : Ch} (hx : x.ok) (h : lineOk' x) : choiceS (lineL x) = some x := by
  obtain ⟨hw, he⟩ := h
  have hk : 1 ≤ x.kind ∧ x.kind ≤ 10 := Classical.byContradiction fun hn => by
    rcases kind_cases x.kind with h | ⟨h, _, _⟩
    · omega
    · exact hw h
  have hx2 : fillC (Ch.of x.kind) (namesL x.kind) (parts 32 (lineL x)).tail = x := by
    rw [parts_line, List.tail_cons]
    obtain ⟨h0, h1, h2, h3, h4⟩ := hx
    obtain ⟨k, a, b, c, d, e⟩ := x
    simp only at *
    have : k = 1 ∨ k = 2 ∨ k = 3 ∨ k = 4 ∨ k = 5 ∨ k = 6 ∨ k = 7 ∨ k = 8 ∨ k = 9 ∨ k = 10 := by omega
    rw [projC] at he
    rcases this with rfl | rfl | rfl | rfl | rfl | rfl | rfl | rfl | rfl | rfl
    all_goals
      simp [namesL, cp, setI, getI, Ch.of] at he
      simp [namesL, fillC, setI, getI, fieldL, Ch.of, numV_itoa h1, numV_itoa h2, numV_itoa h3, numV_itoa h4, unhex_hexL, he]
  have h9 := (fill_line (t := lineL x) hk (by rw [parts_line]; rfl) (by rw [parts_line]; simp; omega)).1 (by rw [hx2])
  rwa [hx2] at h9

/-! Scripts. -/
structure Sc where
  n : Int
  f : Int
  odd : Int
  seed : List UInt8
  l : List Ch
def Sc.zero : Sc := ⟨0, 0, 0, [], []⟩
def Sc.ok (s : Sc) : Prop := In64 s.n ∧ In64 s.f ∧ In64 s.odd ∧ ∀ x ∈ s.l, x.ok
def benchW : List UInt8 := [98, 101, 110, 99, 104]
def headPs (s : Sc) : List (List UInt8) := [benchW, itoa s.n, itoa s.f, itoa s.odd, hexL s.seed]
def headL (s : Sc) : List UInt8 := join (headPs s) [32]
/-- A script's text; else what is wrong. -/
def formatS (s : Sc) : List UInt8 × Int :=
  if 500 < s.l.length ∨ 60 < s.seed.length then ([], 2) else if s.odd < 0 ∨ 1023 < s.odd then ([], 4)
  else if ∀ x ∈ s.l, lineOk' x then (join (headL s :: s.l.map lineL) [10] ++ [10], 0) else ([], 4)
/-- The script of a first line, by the program: whatever it is. -/
def looseH (t : List UInt8) : Sc := match parts 32 t with
  | [_, a, b, c, d] => ⟨numV a, numV b, numV c, unhexL d, []⟩
  | _ => Sc.zero
/-- The script of a first line. -/
def headS (t : List UInt8) : Option Sc :=
  if headL (looseH t) = t ∧ ¬ ((looseH t).odd < 0 ∨ 1023 < (looseH t).odd ∨ 60 < (looseH t).seed.length) then some (looseH t) else none
theorem headPs_no {s : Sc} {c : UInt8} (h : c.toNat < 45) : ∀ p ∈ headPs s, c ∉ p := by
  intro p hp
  simp [headPs] at hp
  rcases hp with rfl | rfl | rfl | rfl | rfl
  · unfold benchW; intro hm; simp at hm; rcases hm with rfl | rfl | rfl | rfl | rfl <;> simp at h
  · exact itoa_no h
  · exact itoa_no h
  · exact itoa_no h
  · exact hexL_no h
theorem parts_head (s : Sc) : parts 32 (headL s) = headPs s := parts_join (by simp [headPs]) (headPs_no (by decide))
theorem head_no (s : Sc) : (10 : UInt8) ∉ headL s := by
  have : ∀ {ps : List (List UInt8)}, (∀ p ∈ ps, (10 : UInt8) ∉ p) → (10 : UInt8) ∉ join ps [32] := by
    intro ps hp
    cases ps with
    | nil => rw [join_nil]; simp
    | cons q r =>
      rw [join_cons, joinTail]
      intro hm
      rcases List.mem_append.1 hm with hm | hm
      · exact hp q (by simp) hm
      · obtain ⟨l, hl, hm⟩ := List.mem_flatten.1 hm
        obtain ⟨p, hpr, rfl⟩ := List.mem_map.1 hl
        rcases List.mem_append.1 hm with hm | hm
        · simp at hm
        · exact hp p (by simp [hpr]) hm
  exact this (headPs_no (by decide))
theorem head_line {s : Sc} (h : s.ok) (h1 : 0 ≤ s.odd) (h2 : s.odd ≤ 1023) (h3 : s.seed.length ≤ 60) : headS (headL s) = some { s with l := [] } := by
  obtain ⟨a, b, c, _⟩ := h
  have e : looseH (headL s) = { s with l := [] } := by
    unfold looseH
    rw [parts_head]
    show (⟨numV (itoa s.n), numV (itoa s.f), numV (itoa s.odd), unhexL (hexL s.seed), []⟩ : Sc) = _
    rw [numV_itoa a, numV_itoa b, numV_itoa c, unhex_hexL]
  unfold headS
  rw [e, if_pos ⟨rfl, by simp; omega⟩]
theorem line_head {t : List UInt8} {s : Sc} (h : headS t = some s) : headL s = t ∧ 0 ≤ s.odd ∧ s.odd ≤ 1023 ∧ s.seed.length ≤ 60 ∧ s.l = [] ∧ s.ok := by
  unfold headS at h
  split at h
  · rename_i hc
    injection h with h
    rw [h] at hc
    have hz : looseH t = s := h
    have hs : s.l = [] ∧ s.ok := by
      rw [← hz]
      unfold looseH
      split
      · exact ⟨rfl, numV_in _, numV_in _, numV_in _, by simp⟩
      · exact ⟨rfl, in64_zero, in64_zero, in64_zero, by simp [Sc.zero]⟩
    exact ⟨hc.1, by omega, by omega, by omega, hs⟩
  · cases h

/-- The lines from number i on, the script so far. -/
def goS (i : Nat) (s : Sc) : List (List UInt8) → Sc × Int × Int
  | [] => (Sc.zero, 1, 4)
  | [t] => if 0 < i ∧ t = [] then (s, 0, 0) else (Sc.zero, (i : Int) + 1, 4)
  | t :: r => if i = 0 then (match headS t with | none => (Sc.zero, (i : Int) + 1, 4) | some h => goS (i + 1) h r)
    else match choiceS t with
      | none => (Sc.zero, (i : Int) + 1, 4)
      | some x => if 500 ≤ s.l.length then (Sc.zero, (i : Int) + 1, 2) else goS (i + 1) { s with l := s.l ++ [x] } r
/-- The script of a text, or the first line that is wrong, and how. -/
def parseS (t : List UInt8) : Sc × Int × Int := goS 0 Sc.zero (parts 10 t)

end Go.Proofs.YtkcfbacapaonaaaDoor
