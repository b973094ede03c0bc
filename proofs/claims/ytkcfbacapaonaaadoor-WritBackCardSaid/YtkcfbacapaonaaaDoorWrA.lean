/- Scripts as text, in plain Lean, first part: a text cut at a byte and joined again; numerals; hex digits. -/
import Derived.Lib.AtoiAllCases
import Derived.Lib.ItoaLen
import Derived.Lib.SplitLaws
import Derived.Lib.Split
import Derived.Lib.Join
import Derived.Lib.Bytealg
namespace Go.Proofs.YtkcfbacapaonaaaDoor
set_option linter.unusedVariables false
set_option linter.unusedSimpArgs false
open Go.Lib

/-! A text cut at a byte. -/
def parts (c : UInt8) : List UInt8 → List (List UInt8)
  | [] => [[]]
  | x :: r => if x = c then [] :: parts c r else match parts c r with
    | h :: t => (x :: h) :: t
    | [] => [[x]]
theorem parts_ne (c : UInt8) : ∀ s, parts c s ≠ []
  | [] => by simp [parts]
  | x :: r => by
    unfold parts
    split
    · simp
    · split <;> simp
theorem parts_none {c : UInt8} : ∀ {l : List UInt8}, c ∉ l → parts c l = [l]
  | [], _ => rfl
  | x :: r, h => by
    have hx : x ≠ c := fun e => h (by simp [e])
    have hr : c ∉ r := fun e => h (by simp [e])
    rw [parts, if_neg hx, parts_none hr]
theorem parts_hit {c : UInt8} : ∀ {a b : List UInt8}, c ∉ a → parts c (a ++ c :: b) = a :: parts c b
  | [], b, _ => by rw [List.nil_append, parts, if_pos rfl]
  | x :: r, b, h => by
    have hx : x ≠ c := fun e => h (by simp [e])
    have hr : c ∉ r := fun e => h (by simp [e])
    rw [List.cons_append, parts, if_neg hx, parts_hit hr]
theorem parts_mem {c : UInt8} : ∀ {s p : List UInt8}, p ∈ parts c s → c ∉ p
  | [], p, h => by simp [parts] at h; simp [h]
  | x :: r, p, h => by
    rw [parts] at h
    by_cases hx : x = c
    · rw [if_pos hx] at h
      rcases List.mem_cons.1 h with rfl | h
      · simp
      · exact parts_mem h
    · rw [if_neg hx] at h
      have hm := @parts_mem c r
      revert h hm
      cases parts c r with
      | nil => intro h _; simp at h; subst h; simp; exact fun e => hx e.symm
      | cons q t =>
        intro h hm
        rcases List.mem_cons.1 h with rfl | h
        · have := hm (p := q) (by simp)
          simp
          exact ⟨fun e => hx e.symm, this⟩
        · exact hm (by simp [h])
theorem join_two (x y : List UInt8) (r : List (List UInt8)) (sep : List UInt8) : join (x :: y :: r) sep = x ++ sep ++ join (y :: r) sep := by
  rw [join_cons, join_cons]
  simp [joinTail]
theorem join_parts (c : UInt8) : ∀ s, join (parts c s) [c] = s
  | [] => by simp [parts, join_one]
  | x :: r => by
    have ih := join_parts c r
    have hne := parts_ne c r
    rw [parts]
    by_cases hx : x = c
    · rw [if_pos hx]
      revert ih hne
      cases parts c r with
      | nil => intro _ h; exact absurd rfl h
      | cons q t => intro ih _; rw [join_two, ih, hx]; simp
    · rw [if_neg hx]
      revert ih hne
      cases parts c r with
      | nil => intro _ h; exact absurd rfl h
      | cons q t =>
        intro ih _
        show join ((x :: q) :: t) [c] = x :: r
        rw [join_cons] at ih ⊢
        rw [List.cons_append, ih]
theorem parts_join {c : UInt8} : ∀ {ps : List (List UInt8)}, ps ≠ [] → (∀ p ∈ ps, c ∉ p) → parts c (join ps [c]) = ps
  | [], h, _ => absurd rfl h
  | [p], _, h => by rw [join_one]; exact parts_none (h p (by simp))
  | p :: q :: r, _, h => by
    rw [join_two, List.append_assoc]
    show parts c (p ++ c :: join (q :: r) [c]) = _
    rw [parts_hit (h p (by simp)), parts_join (by simp) (fun x hx => h x (by simp [hx]))]
theorem join_inj {c : UInt8} {ps qs : List (List UInt8)} (hp : ps ≠ []) (hq : qs ≠ []) (h1 : ∀ p ∈ ps, c ∉ p) (h2 : ∀ p ∈ qs, c ∉ p) (h : join ps [c] = join qs [c]) : ps = qs := by
  rw [← parts_join hp h1, ← parts_join hq h2, h]
/-- The parts of what ends in the byte. -/
theorem parts_snoc (c : UInt8) : ∀ s, parts c (s ++ [c]) = parts c s ++ [[]]
  | [] => by simp [parts]
  | x :: r => by
    have ih := parts_snoc c r
    have hne := parts_ne c r
    rw [List.cons_append, parts, parts, ih]
    by_cases hx : x = c
    · rw [if_pos hx, if_pos hx, List.cons_append]
    · rw [if_neg hx, if_neg hx]
      revert hne
      cases parts c r with
      | nil => intro h; exact absurd rfl h
      | cons q t => intro _; rfl

theorem first_at {c : UInt8} : ∀ {s : List UInt8}, c ∈ s → ∃ a b, s = a ++ c :: b ∧ c ∉ a
  | x :: r, h => by
    by_cases hx : x = c
    · exact ⟨[], r, by rw [hx]; rfl, by simp⟩
    · obtain ⟨a, b, e, ha⟩ := first_at (s := r) (by rcases List.mem_cons.1 h with h | h; exact absurd h.symm hx; exact h)
      exact ⟨x :: a, b, by rw [e]; rfl, by simp; exact ⟨fun e => hx e.symm, ha⟩⟩
theorem index_one {c : UInt8} {a b : List UInt8} (h : c ∉ a) : index (a ++ c :: b) [c] = (a.length : Nat) := by
  refine index_first (by simp) ?_ ?_
  · simp [occAt]
  · intro j hj
    rw [occAt, List.drop_append_of_le_length (by omega)]
    rw [List.drop_eq_getElem_cons hj]
    have : a[j] ≠ c := fun e => h (by rw [← e]; exact List.getElem_mem hj)
    simp only [List.cons_append, List.isPrefixOf, Bool.and_true]
    exact beq_false_of_ne (Ne.symm this)
theorem splitK_parts (c : UInt8) : ∀ (k : Nat) (s : List UInt8), s.count c = k → splitK [c] 0 k s = parts c s
  | 0, s, h => by
    have : c ∉ s := List.count_eq_zero.1 h
    rw [parts_none this]; rfl
  | k + 1, s, h => by
    have hm : c ∈ s := List.count_pos_iff.1 (by omega)
    obtain ⟨a, b, rfl, ha⟩ := first_at hm
    have hb : b.count c = k := by
      rw [List.count_append, List.count_cons_self, List.count_eq_zero.2 ha] at h
      omega
    rw [splitK, if_neg (by rw [index_one ha]; simp), index_one ha, parts_hit ha]
    simp [splitK_parts c k b hb]
/-- The library's cut is this one. -/
theorem splitB_parts (c : UInt8) (s : ByteArray) : (splitB ⟨#[c]⟩ 0 (countB s ⟨#[c]⟩) s).map (·.data.toList) = parts c s.data.toList := by
  rw [splitB_data]
  show splitK [c] 0 (countB s ⟨#[c]⟩) s.data.toList = _
  exact splitK_parts c _ _ (count_one c _).symm

/-! Numerals. -/
def In64 (n : Int) : Prop := -9223372036854775808 ≤ n ∧ n ≤ 9223372036854775807
instance (n : Int) : Decidable (In64 n) := inferInstanceAs (Decidable (_ ∧ _))
theorem in64_zero : In64 0 := by unfold In64; omega

theorem dec_all (u : Nat) : ∀ b ∈ decDigits u, 48 ≤ b.toNat ∧ b.toNat ≤ 57 := by
  induction u using Nat.strongRecOn with
  | _ u ih =>
    intro b hb
    rw [decDigits] at hb
    by_cases h : u < 10
    · rw [dif_pos h] at hb
      obtain rfl := List.mem_singleton.1 hb
      simp; omega
    · rw [dif_neg h] at hb
      rcases List.mem_append.1 hb with hb | hb
      · exact ih (u / 10) (by omega) b hb
      · obtain rfl := List.mem_singleton.1 hb
        simp; omega
theorem dec_ne (u : Nat) : decDigits u ≠ [] := fun e => by
  have h1 := decDigits_length u
  have h2 := nDigits_pos u
  rw [e] at h1
  simp at h1
  omega
theorem parse_snoc : ∀ (l : List UInt8) (acc u : Nat) (d : Nat), d < 10 → parseUint10 acc l = .ok u → u * 10 + d < 18446744073709551616 → parseUint10 acc (l ++ [UInt8.ofNat (48 + d)]) = .ok (u * 10 + d)
  | [], acc, u, d, hd, h, hu => by
    rw [parseUint10] at h
    injection h with h
    subst h
    have e : (UInt8.ofNat (48 + d)).toNat = 48 + d := by simp; omega
    rw [List.nil_append, parseUint10, e, if_pos (by omega), if_neg (by omega), if_neg (by omega), parseUint10]
    congr 1
    omega
  | c :: r, acc, u, d, hd, h, hu => by
    rw [parseUint10] at h
    rw [List.cons_append, parseUint10]
    by_cases h1 : 48 ≤ c.toNat ∧ c.toNat ≤ 57
    · rw [if_pos h1] at h ⊢
      by_cases h2 : 1844674407370955162 ≤ acc
      · rw [if_pos h2] at h; cases h
      · rw [if_neg h2] at h ⊢
        by_cases h3 : 18446744073709551616 ≤ acc * 10 + (c.toNat - 48)
        · rw [if_pos h3] at h; cases h
        · rw [if_neg h3] at h ⊢
          exact parse_snoc r _ u d hd h hu
    · rw [if_neg h1] at h; cases h
theorem parse_dec (u : Nat) : u < 18446744073709551616 → parseUint10 0 (decDigits u) = .ok u := by
  induction u using Nat.strongRecOn with
  | _ u ih =>
    intro hu
    rw [decDigits]
    by_cases h : u < 10
    · rw [dif_pos h]
      have := parse_snoc [] 0 0 u h rfl (by omega)
      simpa using this
    · rw [dif_neg h]
      have := parse_snoc (decDigits (u / 10)) 0 (u / 10) (u % 10) (by omega) (ih (u / 10) (by omega) (by omega)) (by omega)
      rw [this]
      congr 1
      omega
theorem mag_dec {u : Nat} (hu : u < 18446744073709551616) : parseMag (decDigits u) = .ok u := by
  rw [parseMag, if_neg (dec_ne u), parse_dec u hu]
theorem atoi_itoa {n : Int} (h : In64 n) : atoiAll (itoa n) = .ok n := by
  obtain ⟨h0, h1⟩ := h
  unfold itoa
  by_cases hn : n < 0
  · rw [if_pos hn, atoiAll_minus, mag_dec (by omega)]
    unfold signed
    simp only
    rw [if_neg (by omega)]
    congr 1
    omega
  · rw [if_neg hn]
    have hd := dec_all n.toNat
    have hne := dec_ne n.toNat
    have hm := mag_dec (u := n.toNat) (by omega)
    revert hd hne hm
    cases decDigits n.toNat with
    | nil => intro _ h; exact absurd rfl h
    | cons c r =>
      intro hd _ hm
      have := hd c (by simp)
      rw [atoiAll_plain c r (by omega) (by omega), hm]
      unfold signless
      simp only
      rw [if_neg (by omega)]
      congr 1
      omega
/-- What a word reads as, by the program: whatever it is. -/
def numV (w : List UInt8) : Int := match atoiAll w with | .ok v => v | .range => atoiSat w | _ => 0
theorem numV_in (w : List UInt8) : In64 (numV w) := by
  unfold numV In64
  split
  · rename_i v h; exact atoiAll_bounds h
  · exact atoiSat_bounds w
  · omega
theorem numV_itoa {n : Int} (h : In64 n) : numV (itoa n) = n := by unfold numV; rw [atoi_itoa h]
/-- The number that a word is. -/
def numS (w : List UInt8) : Option Int := if itoa (numV w) = w then some (numV w) else none
theorem numS_itoa {n : Int} (h : In64 n) : numS (itoa n) = some n := by unfold numS; rw [numV_itoa h, if_pos rfl]
theorem numS_some {w : List UInt8} {n : Int} (h : numS w = some n) : itoa n = w ∧ In64 n ∧ numV w = n := by
  unfold numS at h
  split at h
  · rename_i e; injection h with h; rw [← h]; exact ⟨e, numV_in w, rfl⟩
  · cases h
theorem itoa_mem {n : Int} {b : UInt8} (h : b ∈ itoa n) : b = 45 ∨ (48 ≤ b.toNat ∧ b.toNat ≤ 57) := by
  unfold itoa at h
  split at h
  · rcases List.mem_cons.1 h with h | h
    · exact .inl h
    · exact .inr (dec_all _ b h)
  · exact .inr (dec_all _ b h)
theorem itoa_no {n : Int} {c : UInt8} (h : c.toNat < 45) : c ∉ itoa n := fun hm => by
  rcases itoa_mem hm with rfl | h2
  · simp at h
  · omega

/-! Hex digits. -/
def hexD (n : Nat) : UInt8 := if n < 10 then UInt8.ofNat (48 + n) else UInt8.ofNat (87 + n)
def hexP (s : List UInt8) : List UInt8 := s.flatMap fun c => [hexD (c.toNat / 16), hexD (c.toNat % 16)]
def hexL (s : List UInt8) : List UInt8 := if s = [] then [46] else hexP s
def digitsB : ByteArray := ⟨#[48, 49, 50, 51, 52, 53, 54, 55, 56, 57, 97, 98, 99, 100, 101, 102]⟩
theorem hexP_len (s : List UInt8) : (hexP s).length = 2 * s.length := by
  induction s with
  | nil => rfl
  | cons c r ih => unfold hexP at ih ⊢; rw [List.flatMap_cons, List.length_append, ih]; simp; omega
theorem hexP_snoc (s : List UInt8) (c : UInt8) : hexP (s ++ [c]) = hexP s ++ [hexD (c.toNat / 16), hexD (c.toNat % 16)] := by
  unfold hexP; rw [List.flatMap_append]; simp
theorem hexD_val : ∀ n : Fin 16, 48 ≤ (hexD n.val).toNat ∧ (hexD n.val).toNat ≤ 102 ∧ indexByte digitsB.data.toList (hexD n.val) = n.val := by decide +kernel
theorem hexP_mem {s : List UInt8} {b : UInt8} (h : b ∈ hexP s) : 48 ≤ b.toNat := by
  unfold hexP at h
  obtain ⟨c, _, h⟩ := List.mem_flatMap.1 h
  have hc := c.toNat_lt
  simp at h
  rcases h with rfl | rfl
  · exact (hexD_val ⟨c.toNat / 16, by omega⟩).1
  · exact (hexD_val ⟨c.toNat % 16, by omega⟩).1
theorem hexL_no {s : List UInt8} {c : UInt8} (h : c.toNat < 45) : c ∉ hexL s := fun hm => by
  unfold hexL at hm
  split at hm
  · obtain rfl := List.mem_singleton.1 hm; simp at h
  · have := hexP_mem hm; omega
theorem hexL_len (s : List UInt8) : (hexL s).length ≤ 2 * s.length + 1 := by
  unfold hexL
  split
  · simp
  · rw [hexP_len]; omega
/-- A digit's place; -1: it is none. -/
def dgt (c : UInt8) : Int := indexByte digitsB.data.toList c
theorem dgt_hexD {n : Nat} (h : n < 16) : dgt (hexD n) = n := (hexD_val ⟨n, h⟩).2.2
theorem dgt_all : ∀ n : Fin 256, dgt (UInt8.ofNat n.val) = -1 ∨ ∃ k : Fin 16, dgt (UInt8.ofNat n.val) = (k.val : Nat) ∧ hexD k.val = UInt8.ofNat n.val := by decide +kernel
theorem dgt_cases (c : UInt8) : dgt c = -1 ∨ ∃ k, k < 16 ∧ dgt c = (k : Nat) ∧ hexD k = c := by
  have h := dgt_all ⟨c.toNat, c.toNat_lt⟩
  simp only [UInt8.ofNat_toNat] at h
  rcases h with h | ⟨k, h1, h2⟩
  · exact .inl h
  · exact .inr ⟨k.val, k.isLt, h1, h2⟩
/-- The byte that two digits are, by the program: whatever they are. -/
def byte2 (a b : UInt8) : UInt8 := match dgt a, dgt b with
  | .ofNat x, .ofNat y => UInt8.ofNat (16 * x + y)
  | .negSucc _, .ofNat y => UInt8.ofNat (240 + y)
  | _, _ => 255
def unhexL : List UInt8 → List UInt8
  | a :: b :: r => byte2 a b :: unhexL r
  | _ => []
theorem byte2_hex (c : UInt8) : byte2 (hexD (c.toNat / 16)) (hexD (c.toNat % 16)) = c := by
  have hc := c.toNat_lt
  unfold byte2
  rw [dgt_hexD (by omega), dgt_hexD (by omega)]
  show UInt8.ofNat (16 * (c.toNat / 16) + c.toNat % 16) = c
  rw [Nat.div_add_mod, UInt8.ofNat_toNat]
theorem unhex_hexP : ∀ s, unhexL (hexP s) = s
  | [] => rfl
  | c :: r => by
    show unhexL (hexD (c.toNat / 16) :: hexD (c.toNat % 16) :: hexP r) = c :: r
    rw [unhexL, byte2_hex, unhex_hexP r]
theorem unhex_hexL (s : List UInt8) : unhexL (hexL s) = s := by
  unfold hexL
  split
  · rename_i h; rw [h]; rfl
  · exact unhex_hexP s
theorem unhexL_len : ∀ s, (unhexL s).length ≤ s.length
  | [] => by simp [unhexL]
  | [a] => by simp [unhexL]
  | a :: b :: r => by have := unhexL_len r; simp [unhexL]; omega
/-- The text that a word is. -/
def txtS (w : List UInt8) : Option (List UInt8) := if hexL (unhexL w) = w then some (unhexL w) else none
theorem txtS_hexL (s : List UInt8) : txtS (hexL s) = some s := by unfold txtS; rw [unhex_hexL, if_pos rfl]
theorem txtS_some {w v : List UInt8} (h : txtS w = some v) : hexL v = w ∧ unhexL w = v := by
  unfold txtS at h
  split at h
  · rename_i e; injection h with h; rw [← h]; exact ⟨e, rfl⟩
  · cases h

end Go.Proofs.YtkcfbacapaonaaaDoor
