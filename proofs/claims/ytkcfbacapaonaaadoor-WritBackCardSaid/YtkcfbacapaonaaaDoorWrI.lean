/- The document's way to read words: a digit, a text, a number. -/
import Derived.Test.YtkcfbacapaonaaaDoorWrH
namespace Go.Proofs.YtkcfbacapaonaaaDoor
set_option linter.unusedVariables false
set_option linter.unusedSimpArgs false
open Go.RowKit Go.Lib

set_option maxRecDepth 100000 in
theorem dig_index {k : Nat} (h : k < 16) (w : World) : (Instr.index 9 (.string ⟨#[48, 49, 50, 51, 52, 53, 54, 55, 56, 57, 97, 98, 99, 100, 101, 102]⟩) (.int .i64 k)).run Tryd.prog w = .ok (.int .u8 (hexD k).toNat) w := by
  have : k = 0 ∨ k = 1 ∨ k = 2 ∨ k = 3 ∨ k = 4 ∨ k = 5 ∨ k = 6 ∨ k = 7 ∨ k = 8 ∨ k = 9 ∨ k = 10 ∨ k = 11 ∨ k = 12 ∨ k = 13 ∨ k = 14 ∨ k = 15 := by omega
  rcases this with rfl | rfl | rfl | rfl | rfl | rfl | rfl | rfl | rfl | rfl | rfl | rfl | rfl | rfl | rfl | rfl
  all_goals rfl
theorem u8_eq {a b : UInt8} (h : a = b) : ((a.toNat : Int) == (b.toNat : Int)) = true := by rw [h]; simp
theorem u8_ne {a b : UInt8} (h : a ≠ b) : ((a.toNat : Int) == (b.toNat : Int)) = false := by
  simp only [beq_eq_false_iff_ne, ne_eq]
  intro e
  exact h (UInt8.toNat_inj.1 (by omega))
set_option maxRecDepth 100000 in
set_option maxHeartbeats 2000000 in
theorem ref_digit (c : UInt8) (w : World) : Calls Tryd.prog 56 #[.int .u8 c.toNat] w fun e w' => e = .returned (.int .i64 (dgt c)) ∧ w = w' := by
  go_enter Tryd.func56, Tryd.ntmps56
  go_wp2_with fail
  go_loop [3] (fun i => ∃ k : Nat, k ≤ 16 ∧ i = .int .i64 k ∧ ∀ j, j < k → hexD j ≠ c) (fun i => 16 - (RowKit.intOf i).toNat)
  case atStart => exact ⟨0, Nat.zero_le _, rfl, fun j hj => absurd hj (Nat.not_lt_zero _)⟩
  case round =>
    obtain ⟨k, hk, rfl, hn⟩ := hrel
    by_cases hlt : k < 16
    · have HN := Lib.hid hn
      clear hn
      have ix := fun w => dig_index hlt w
      by_cases he : hexD k = c
      · have e1 := u8_eq he
        have HE := Lib.hid (show dgt c = k by rw [← he, dgt_hexD hlt])
        clear he
        go_wp2_with fail
        go_ret
        exact ⟨by rw [HE.out]; rfl, rfl⟩
      · have e1 := u8_ne he
        have HE := Lib.hid he
        clear he
        go_wp2_with fail
        go_round
        case rel => exact ⟨k + 1, by omega, by go_num, fun j hj => by
          rcases Nat.lt_or_ge j k with h | h
          · exact HN.out j h
          · obtain rfl : j = k := by omega
            exact HE.out⟩
        case measure => simp [RowKit.intOf]; omega
    · obtain rfl : k = 16 := by omega
      have HE := Lib.hid (show dgt c = -1 by
        rcases dgt_cases c with h | ⟨k, hk, _, h⟩
        · exact h
        · exact absurd h (hn k hk))
      clear hn
      go_wp2_with fail
      go_ret
      exact ⟨by rw [HE.out]; rfl, rfl⟩

/-! A text. -/
theorem hexP_dgt {s : List UInt8} {b : UInt8} (h : b ∈ hexP s) : 0 ≤ dgt b := by
  unfold hexP at h
  obtain ⟨c, _, h⟩ := List.mem_flatMap.1 h
  have hc := c.toNat_lt
  simp at h
  rcases h with rfl | rfl
  · rw [dgt_hexD (by omega)]; omega
  · rw [dgt_hexD (by omega)]; omega
theorem txtS_cases {w : List UInt8} (h : hexL (unhexL w) = w) : w = [46] ∨ (w = hexP (unhexL w) ∧ unhexL w ≠ []) := by
  unfold hexL at h
  split at h
  · exact .inl h.symm
  · rename_i h0; exact .inr ⟨h.symm, h0⟩
theorem txtS_bad {l : List UInt8} {k : Nat} (hk : k < l.length) (hd : ¬ 0 ≤ dgt l[k]) (h2 : l ≠ [46]) : txtS l = none := by
  unfold txtS
  rw [if_neg]
  intro h
  rcases txtS_cases h with h | ⟨h, _⟩
  · exact h2 h
  · exact hd (hexP_dgt (s := unhexL l) (by rw [← h]; exact List.getElem_mem hk))
theorem txtS_odd {l : List UInt8} (h1 : l.length % 2 ≠ 0) (h2 : l ≠ [46]) : txtS l = none := by
  unfold txtS
  rw [if_neg]
  intro h
  rcases txtS_cases h with h | ⟨h, _⟩
  · exact h2 h
  · have := congrArg List.length h
    rw [hexP_len] at this
    omega
theorem txtS_end {l : List UInt8} (h0 : l ≠ []) (h : hexP (unhexL l) = l) : txtS l = some (unhexL l) := by
  unfold txtS hexL
  rw [if_pos]
  rw [if_neg]
  · exact h
  · intro e; rw [e] at h; exact h0 h.symm
theorem byte2_good {a b : UInt8} (ha : 0 ≤ dgt a) (hb : 0 ≤ dgt b) : IntKind.u8.wrap (16 * dgt a + dgt b) = ((byte2 a b).toNat : Int) ∧ hexP [byte2 a b] = [a, b] ∧ dgt a ≤ 15 ∧ dgt b ≤ 15 := by
  rcases dgt_cases a with h | ⟨x, hx, ea, xa⟩
  · omega
  · rcases dgt_cases b with h | ⟨y, hy, eb, xb⟩
    · omega
    · unfold byte2
      rw [ea, eb]
      have e : (UInt8.ofNat (16 * x + y)).toNat = 16 * x + y := by simp; omega
      show IntKind.u8.wrap (16 * (x : Int) + y) = ((UInt8.ofNat (16 * x + y)).toNat : Int) ∧ hexP [UInt8.ofNat (16 * x + y)] = _ ∧ _
      rw [e]
      refine ⟨by rw [IntWalk.u8_in _ (by omega)]; omega, ?_, by omega, by omega⟩
      show [hexD ((UInt8.ofNat (16 * x + y)).toNat / 16), hexD ((UInt8.ofNat (16 * x + y)).toNat % 16)] = _
      rw [e, show (16 * x + y) / 16 = x by omega, show (16 * x + y) % 16 = y by omega, xa, xb]
theorem hexP_app (a b : List UInt8) : hexP (a ++ b) = hexP a ++ hexP b := by unfold hexP; rw [List.flatMap_append]
/-- One pair of digits on. -/
theorem txt_step {l : List UInt8} {k : Nat} (h : 2 * k + 1 < l.length) (hp : hexP (unhexL (l.take (2 * k))) = l.take (2 * k)) (ha : 0 ≤ dgt l[2 * k]) (hb : 0 ≤ dgt l[2 * k + 1]) :
    hexP (unhexL (l.take (2 * (k + 1)))) = l.take (2 * (k + 1)) := by
  rw [unhex_take l k h, hexP_app, hp, (byte2_good ha hb).2.1, show 2 * (k + 1) = 2 * k + 1 + 1 by omega, List.take_succ_eq_append_getElem h, List.take_succ_eq_append_getElem (by omega), List.append_assoc]
  rfl

/-! A number. -/
theorem w64_in (n : Int) (h : -9223372036854775808 ≤ n ∧ n ≤ 9223372036854775807) : wrap64 n = n := IntWalk.wrap64_in n h
def numF : List UInt8 → Int → Option Int
  | [], acc => some acc
  | c :: r, acc => if 48 ≤ c.toNat ∧ c.toNat ≤ 57 then numF r (wrap64 (wrap64 (10 * acc) - ((c.toNat : Int) - 48))) else none
theorem numF_snoc : ∀ (l : List UInt8) (acc : Int) (c : UInt8), numF (l ++ [c]) acc = (numF l acc).bind fun a => if 48 ≤ c.toNat ∧ c.toNat ≤ 57 then some (wrap64 (wrap64 (10 * a) - ((c.toNat : Int) - 48))) else none
  | [], acc, c => by simp [numF]
  | d :: r, acc, c => by
    rw [List.cons_append, numF, numF]
    split
    · exact numF_snoc r _ c
    · rfl
theorem numF_dec (u : Nat) : u ≤ 9223372036854775808 → numF (decDigits u) 0 = some (-(u : Int)) := by
  induction u using Nat.strongRecOn with
  | _ u ih =>
    intro hu
    rw [decDigits]
    by_cases h : u < 10
    · rw [dif_pos h]
      have e : (UInt8.ofNat (48 + u)).toNat = 48 + u := by simp; omega
      rw [numF, e, if_pos (by omega), numF, w64_in (10 * 0) (by omega), w64_in _ (by omega)]
      congr 1
      omega
    · rw [dif_neg h]
      have e : (UInt8.ofNat (48 + u % 10)).toNat = 48 + u % 10 := by simp; omega
      rw [numF_snoc, ih (u / 10) (by omega) (by omega), Option.bind_some, e, if_pos (by omega), w64_in (10 * -((u / 10 : Nat) : Int)) (by omega), w64_in _ (by omega)]
      congr 1
      omega
/-- The digits of a word. -/
def digs (w : List UInt8) : List UInt8 := if w.head? = some 45 then w.tail else w
def numRV (w : List UInt8) : Option Int := if (digs w).length < 1 ∨ 19 < (digs w).length then none else
  (numF (digs w) 0).map fun n => if (digs w).length = w.length then wrap64 (-n) else n
theorem nDigits_ge : ∀ (k u : Nat), k + 2 ≤ nDigits u → 10 ^ (k + 1) ≤ u
  | k, u, h => by
    have h10 : ¬ u < 10 := fun h1 => by rw [nDigits_small h1] at h; omega
    rw [nDigits_big h10] at h
    match k, h with
    | 0, _ => omega
    | k + 1, h =>
      have := nDigits_ge k (u / 10) (by omega)
      rw [Nat.pow_succ]
      omega
theorem nDigits_le19 {u : Nat} (h : u ≤ 9223372036854775808) : nDigits u ≤ 19 := by
  rcases Nat.lt_or_ge (nDigits u) 20 with h20 | h20
  · omega
  · have := nDigits_ge 18 u h20
    omega
theorem numRV_some {w : List UInt8} {m : Int} (h : numS w = some m) : numRV w = some m := by
  obtain ⟨rfl, ⟨h0, h1⟩, _⟩ := numS_some h
  unfold numRV itoa
  by_cases hm : m < 0
  · rw [if_pos hm]
    have hl := nDigits_le19 (u := m.natAbs) (by omega)
    have hp := nDigits_pos m.natAbs
    have e : digs (45 :: decDigits m.natAbs) = decDigits m.natAbs := rfl
    rw [e, decDigits_length, if_neg (by omega), numF_dec _ (by omega), Option.map_some, if_neg (by rw [List.length_cons, decDigits_length]; omega)]
    congr 1
    omega
  · rw [if_neg hm]
    have hl := nDigits_le19 (u := m.toNat) (by omega)
    have hp := nDigits_pos m.toNat
    have hd := dec_all m.toNat
    have e : digs (decDigits m.toNat) = decDigits m.toNat := by
      unfold digs
      rw [if_neg]
      intro hh
      have := hd 45 (List.mem_of_mem_head? hh)
      simp at this
    rw [e, decDigits_length, if_neg (by omega), numF_dec _ (by omega), Option.map_some, if_pos rfl, w64_in _ (by omega)]
    congr 1
    omega

theorem str_ne {s : ByteArray} {l : List UInt8} (h : s.data.toList ≠ l) : (s.toList == l) = false := by rw [ba_toList]; simpa using h
theorem str_eq {s : ByteArray} {l : List UInt8} (h : s.data.toList = l) : (s.toList == l) = true := by rw [ba_toList]; simpa using h
def TxtOut (o : Option (List UInt8)) (e : Ending) : Prop := match o with | some v => e = .returned (.tuple #[.string ⟨v.toArray⟩, .bool true]) | none => e = .returned (.tuple #[.string ⟨#[]⟩, .bool false])
set_option maxRecDepth 100000 in
set_option maxHeartbeats 4000000 in
theorem ref_text (s : ByteArray) (hs : s.size ≤ 1000000) (w : World) : Calls Tryd.prog 45 #[.string s] w fun e w' => TxtOut (txtS s.data.toList) e ∧ Chg [] w w' := by
  have hsz : s.data.toList.length = s.size := rfl
  by_cases hd : s.data.toList = [46]
  · have e : txtS [46] = some [] := by decide
    rw [hd, e]
    have hs2 : s = ⟨#[46]⟩ := Go.WideShapes.bytes_inj hd
    subst hs2
    clear hd hsz
    go_enter Tryd.func45, Tryd.ntmps45
    go_wp2_with fail
    go_ret2
    exact ⟨rfl, Chg.refl _ _⟩
  · have e1 := str_ne hd
    by_cases h0 : s.data.toList = []
    · have e2 : txtS [] = none := by decide
      rw [h0, e2]
      have hs2 : s = ⟨#[]⟩ := Go.WideShapes.bytes_inj h0
      subst hs2
      clear hd hsz
      go_enter Tryd.func45, Tryd.ntmps45
      go_wp2_with fail
      go_ret2
      exact ⟨rfl, Chg.refl _ _⟩
    · have hpos : 0 < s.size := by rw [← hsz]; exact List.length_pos_iff.2 h0
      have e3 : ((s.size : Int) == 0) = false := beq_eq_false_iff_ne.2 (by omega)
      have ht : (s.size : Int).tmod 2 = ((s.size % 2 : Nat) : Int) := by rw [Int.tmod_eq_emod_of_nonneg (by omega)]; omega
      by_cases hodd : s.size % 2 = 0
      · have e4 : ((s.size : Int) % 2 != 0) = false := by rw [bne_eq_false_iff_eq]; omega
        have HD := Lib.hid hd; have H0 := Lib.hid h0; have HS := Lib.hid hsz; have HO := Lib.hid hodd
        clear hd h0 hsz ht hodd
        go_enter Tryd.func45, Tryd.ntmps45
        go_wp2_with fail
        go_loopg [4, 5, 6, 7] s.size (fun g v i _ _ wr => ∃ (k cap : Nat) (A : Option Addr), g + k = s.size ∧ i = .int .i64 ((2 * k : Nat) : Int) ∧ 2 * k ≤ s.size ∧ v = .slice A k cap ∧ wr.ownsRow w.heap.size 5 1 (.slice A k cap) k (byteCells (unhexL (s.data.toList.take (2 * k)))) ∧ hexP (unhexL (s.data.toList.take (2 * k))) = s.data.toList.take (2 * k) ∧ Chg [] w wr)
        case atStart => exact ⟨0, 0, none, rfl, rfl, Nat.zero_le _, rfl, World.ownsRow_nil _ _ _ _, rfl, Chg.refl _ _⟩
        case round =>
          obtain ⟨k, cap, A, hk, rfl, hle, rfl, hown, hp, hC⟩ := hrel
          have hk9 : k ≤ 1000000 := by omega
          obtain ⟨j, hj⟩ : ∃ j, 2 * k = j := ⟨_, rfl⟩
          have HOwn := Lib.hid hown; have HC := Lib.hid hC; have HK := Lib.hid hk; have HJ := Lib.hid hj; have HP := Lib.hid hp
          rw [hj] at hle ⊢
          clear hown hC hk hj hp
          by_cases hlt : j < s.size
          · have hj1 : j + 1 < s.size := by have := HO.out; have := HJ.out; omega
            have c1 := Lib.hid (fun w => ref_digit s[j] w)
            have c2 := Lib.hid (fun w => ref_digit s[j + 1] w)
            go_wp2_with fail
            refine (c1.out _).mono ?_
            rintro e w1 ⟨rfl, rfl⟩
            go_wp2_with fail
            refine (c2.out _).mono ?_
            rintro e w1 ⟨rfl, rfl⟩
            by_cases ha : 0 ≤ dgt s[j]
            · have f1 : decide (dgt s[j] < 0) = false := by simpa using ha
              by_cases hb : 0 ≤ dgt s[j + 1]
              · have f2 : decide (dgt s[j + 1] < 0) = false := by simpa using hb
                have HG := Lib.hid (byte2_good ha hb)
                have g1 := HG.out.1
                have g2 := HG.out.2.2
                have HA := Lib.hid ha; have HB := Lib.hid hb
                go_wp2_with (at_builtin; go_loud (refine wpList_push rfl _ _ 83 rfl elem_byte w.heap.size rfl (HOwn.out.alloc _) wr.heap.size #[.int .u8 (byte2 s[j] s[j + 1]).toNat] rfl rfl (has_alloc_new _ _) (by simp [Value.oneCell']) (by omega) (by omega) (by have := HC.out.size; simp; omega) ?_); intro v' w2 hown' hgrow _; obtain ⟨a, cap', rfl⟩ := own_shape hown'; have HOwn' := Lib.hid hown'; have HGrow := Lib.hid hgrow; clear hown' hgrow)
                go_roundg (s.size - (k + 1))
                case measure => have := HK.out; have := HJ.out; omega
                case rel =>
                  have hJ := HJ.out
                  subst hJ
                  have hl : 2 * k + 1 < s.data.toList.length := by rw [HS.out]; exact hj1
                  refine ⟨k + 1, _, _, by have := HK.out; omega, by first | (apply congrArg (Value.int .i64); omega) | go_num, by omega, rfl, ?_, txt_step hl HP.out ha hb, ?_⟩
                  · have h := HOwn'.out
                    have e : unhexL (s.data.toList.take (2 * (k + 1))) = _ := unhex_take s.data.toList k hl
                    rw [e, byteCells, List.map_append]
                    exact h
                  · exact (HC.out.alloc _).grown HGrow.out (fun b hb => Or.inr ((HOwn.out.lt b hb).1))
              · have f2 : decide (dgt s[j + 1] < 0) = true := by simpa using hb
                have HT := Lib.hid (txtS_bad (l := s.data.toList) (k := j + 1) hj1 hb HD.out)
                clear ha hb
                go_wp2_with fail
                go_ret2
                exact ⟨by rw [HT.out]; rfl, HC.out⟩
            · have f1 : decide (dgt s[j] < 0) = true := by simpa using ha
              have HT := Lib.hid (txtS_bad (l := s.data.toList) (k := j) hlt ha HD.out)
              clear ha
              go_wp2_with fail
              go_ret2
              exact ⟨by rw [HT.out]; rfl, HC.out⟩
          · obtain rfl : j = s.size := by omega
            have hJ := HJ.out
            have e : s.data.toList.take (2 * k) = s.data.toList := List.take_of_length_le (by rw [HS.out]; omega)
            have HE := Lib.hid (txtS_end H0.out (by have h := HP.out; rw [e] at h; exact h))
            have h := HOwn.out
            rw [e] at h
            have hcv := conv_own h
            clear hJ e h
            go_wp2_with fail
            go_ret2
            exact ⟨by rw [HE.out]; rfl, HC.out⟩
      · have e4 : ((s.size : Int) % 2 != 0) = true := by rw [bne_iff_ne]; omega
        have HT := Lib.hid (txtS_odd (l := s.data.toList) (by rw [hsz]; exact hodd) hd)
        clear hd h0 hsz ht hodd
        go_enter Tryd.func45, Tryd.ntmps45
        go_wp2_with fail
        go_ret2
        exact ⟨by rw [HT.out]; rfl, Chg.refl _ _⟩

end Go.Proofs.YtkcfbacapaonaaaDoor
