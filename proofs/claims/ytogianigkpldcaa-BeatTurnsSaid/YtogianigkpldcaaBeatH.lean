/- BeatTurns: the walks of Next, of both. -/
import Derived.Test.YtogianigkpldcaaBeatG
namespace Go.Proofs.Ytogianigkpldcaa
set_option linter.unusedVariables false
set_option linter.unusedSimpArgs false
open Go.RowKit

def oddB (n z : Int) : Bool := decide (z < 1) || decide (n < z)

theorem next_odd (b : Nat) (n z : Int) (w : World) (h : w.cell? ⟨b, 0, none⟩ = some (.int .i64 n)) :
    Calls Try.prog 31 #[.int .i64 z, .pointer (some ⟨b, 0, none⟩)] w fun e w' => e = .returned (.bool (oddB n z)) ∧ w = w' := by
  unfold oddB
  by_cases h1 : z < 1
  · go_enter Try.func31, Try.ntmps31
    go_wp2_with fail
    go_ret
    exact ⟨by simp [h1], rfl⟩
  · by_cases h2 : n < z
    · go_enter Try.func31, Try.ntmps31
      go_wp2_with fail
      go_ret
      exact ⟨by simp [h2], rfl⟩
    · go_enter Try.func31, Try.ntmps31
      go_wp2_with fail
      go_ret
      exact ⟨by simp [h1, h2], rfl⟩

theorem any_take_succ {zs : List Int} {k : Nat} (p : Int → Bool) (h : k < zs.length) : (zs.take (k + 1)).any p = ((zs.take k).any p || p (zs.getD k 0)) := by
  rw [take_snocI zs k h]; simp

set_option maxHeartbeats 1000000 in
theorem sl_indexFunc (b : Nat) (n : Int) (a : Option Addr) (cap : Nat) (zs : List Int) (w : World) (h : w.cell? ⟨b, 0, none⟩ = some (.int .i64 n)) (hm : zs.length ≤ 9223372036854775807) (hc : ReadsI w a zs) :
    Calls Try.prog 35 #[.slice a zs.length cap, .func (.func 31) #[] #[.pointer (some ⟨b, 0, none⟩)]] w fun e w' => ∃ x, e = .returned (.int .i64 x) ∧ decide (0 ≤ x) = zs.any (oddB n) ∧ w = w' := by
  go_enter Try.func35, Try.ntmps35
  go_wp2_with fail
  go_loop [8] (fun i => ∃ k : Nat, k ≤ zs.length ∧ i = .int .i64 k ∧ (zs.take k).any (oddB n) = false) (fun i => zs.length - (intOf i).toNat)
  case atStart => exact ⟨0, Nat.zero_le _, rfl, by simp⟩
  case round =>
    obtain ⟨k, hk, rfl, hn⟩ := hrel
    have HN := Lib.hid hn; clear hn
    by_cases hlt : k < zs.length
    · obtain ⟨ba, off, rfl, hb, hcell0⟩ := hc (by omega)
      have hcell := hcell0 k hlt
      have hs := any_take_succ (oddB n) hlt
      have hmem : zs.getD k 0 ∈ zs := by simp [List.getD, hlt]
      have HX : oddB n (zs.getD k 0) = true → zs.any (oddB n) = true := fun hx => List.any_eq_true.2 ⟨_, hmem, hx⟩
      clear hc hcell0 hmem
      obtain ⟨z, hz⟩ : ∃ z, zs.getD k 0 = z := ⟨_, rfl⟩
      rw [hz] at hcell hs HX
      have HS := Lib.hid hs
      clear hz hs
      cases ho : oddB n z
      · rw [ho] at HS
        have HO := Lib.hid ho
        clear ho HX
        go_wp2_with (go_at_call 31; refine (next_odd b n z _ h).mono ?_; rw [HO.out]; rintro e w1 ⟨rfl, rfl⟩)
        refine ⟨⟨k+1, by omega, by go_num, ?_⟩, by simp [intOf]; omega⟩
        rw [HS.out, HN.out]; rfl
      · have HO := Lib.hid ho; have HY := Lib.hid (HX ho)
        clear ho HX
        go_wp2_with (go_at_call 31; refine (next_odd b n z _ h).mono ?_; rw [HO.out]; rintro e w1 ⟨rfl, rfl⟩)
        go_ret
        exact ⟨k, rfl, by rw [HY.out]; simp, rfl⟩
    · obtain rfl : zs.length = k := by omega
      rw [List.take_length] at HN
      go_wp2_with fail
      go_ret
      exact ⟨-1, rfl, by rw [HN.out]; rfl, rfl⟩

theorem sl_containsFunc (b : Nat) (n : Int) (a : Option Addr) (cap : Nat) (zs : List Int) (w : World) (h : w.cell? ⟨b, 0, none⟩ = some (.int .i64 n)) (hm : zs.length ≤ 9223372036854775807) (hc : ReadsI w a zs) :
    Calls Try.prog 32 #[.slice a zs.length cap, .func (.func 31) #[] #[.pointer (some ⟨b, 0, none⟩)]] w fun e w' => e = .returned (.bool (zs.any (oddB n))) ∧ w = w' := by
  go_enter Try.func32, Try.ntmps32
  go_wp2_with fail
  refine (sl_indexFunc b n a cap zs w h hm hc).mono ?_
  rintro e w1 ⟨x, rfl, hx, rfl⟩
  have HX := Lib.hid hx; clear hx
  go_wp2_with fail
  go_ret
  exact ⟨by rw [← HX.out]; rfl, rfl⟩

/-- The k-th view behind this one is that of a node that is not silent, and is no moment too late. -/
def nxAt (n view : Int) (zs : List Int) (k : Nat) : Prop := view + k ≤ 1099511627776 ∧ (view + k) % n + 1 ∉ zs

/-- What Next tells where all is right. -/
def NX (n : Nat) (view : Int) (zs : List Int) (a f : Int) : Prop :=
  (∃ j : Nat, j < n ∧ a = view + j + 1 ∧ f = 0 ∧ nxAt n view zs (j + 1) ∧ ∀ i, i < j → ¬ nxAt n view zs (i + 1)) ∨ (a = 0 ∧ f = 6 ∧ ∀ i, i < n → ¬ nxAt n view zs (i + 1))

theorem NX.one {n : Nat} {view : Int} {zs : List Int} {a f a' f' : Int} (h : NX n view zs a f) (h' : NX n view zs a' f') : a = a' ∧ f = f' := by
  rcases h with ⟨j, hj, rfl, rfl, h1, h2⟩ | ⟨rfl, rfl, h1⟩
  · rcases h' with ⟨j', hj', rfl, rfl, h1', h2'⟩ | ⟨rfl, rfl, h1'⟩
    · have : j = j' := by
        rcases Nat.lt_trichotomy j j' with h | h | h
        · exact absurd h1 (h2' j h)
        · exact h
        · exact absurd h1' (h2 j' h)
      subst this
      exact ⟨rfl, rfl⟩
    · exact absurd h1 (h1' j hj)
  · rcases h' with ⟨j', hj', rfl, rfl, h1', h2'⟩ | ⟨rfl, rfl, h1'⟩
    · exact absurd h1' (h1 j' hj')
    · exact ⟨rfl, rfl⟩

def right (n view : Int) : Prop := 1 ≤ n ∧ n ≤ 10 ∧ 0 ≤ view ∧ view ≤ 1099511627776

set_option maxRecDepth 100000 in
set_option maxHeartbeats 1000000 in
theorem next_bad (n view : Int) (a : Option Addr) (cap : Nat) (zs : List Int) (w : World) (hb : ¬ right n view) :
    Calls Try.prog 22 #[.int .i64 n, .int .i64 view, .slice a zs.length cap] w fun e w' => e = .returned (.tuple #[.int .i64 0, .int .i64 1]) ∧ Chg [] w w' := by
  have hmf : ∀ (fn : Fn) (first cap : Array Value) (w : World), (Instr.makeFunc fn first cap).run Try.prog w = .ok (.func fn first cap) w := fun _ _ _ _ => rfl
  go_enter Try.func22, Try.ntmps22
  go_wp2_with (go_at_call 21; refine (turn_bad n view _ hb).mono ?_; rintro e w1 ⟨rfl, rfl⟩)
  exact bodyPost_ret (v := .tuple #[.int .i64 0, .int .i64 1]) (by simp [results, Try.results22, go_sem]) rfl ⟨rfl, (Chg.refl _ _).alloc _⟩

set_option maxRecDepth 100000 in
set_option maxHeartbeats 1000000 in
theorem next_odds (n view : Int) (a : Option Addr) (cap : Nat) (zs : List Int) (w : World) (hr : right n view) (ho : zs.any (oddB n) = true) (hm : zs.length ≤ 9223372036854775807) (hc : ReadsI w a zs) :
    Calls Try.prog 22 #[.int .i64 n, .int .i64 view, .slice a zs.length cap] w fun e w' => e = .returned (.tuple #[.int .i64 0, .int .i64 1]) ∧ Chg [] w w' := by
  have hmf : ∀ (fn : Fn) (first cap : Array Value) (w : World), (Instr.makeFunc fn first cap).run Try.prog w = .ok (.func fn first cap) w := fun _ _ _ _ => rfl
  obtain ⟨W1, hW1⟩ : ∃ W1, w.alloc (.cells #[.int .i64 n] 3) = W1 := ⟨_, rfl⟩
  have c0 : W1.cell? ⟨w.heap.size, 0, none⟩ = some (.int .i64 n) := by rw [← hW1]; exact cell_of_has (has_alloc_new _ _) 0
  have hC1 : Chg [] w W1 := by rw [← hW1]; exact (Chg.refl _ _).alloc _
  have hc1 := hc.chg hC1 (by simp)
  have HC1 := Lib.hid hC1; have HRI := Lib.hid hc1; have HO := Lib.hid ho
  clear hC1 hc1 hc ho
  go_enter Try.func22, Try.ntmps22
  go_wp2_with (first
    | (go_at_call 21; refine (turn_ok n view _ hr.1 hr.2.1 hr.2.2.1 hr.2.2.2).mono ?_; rintro e w1 ⟨rfl, rfl⟩)
    | (go_at_call 32; refine (sl_containsFunc w.heap.size n a cap zs _ c0 hm HRI.out).mono ?_; rw [HO.out]; rintro e w1 ⟨rfl, rfl⟩))
  exact bodyPost_ret (v := .tuple #[.int .i64 0, .int .i64 1]) (by simp [results, Try.results22, go_sem]) rfl ⟨rfl, HC1.out⟩

set_option maxRecDepth 100000 in
set_option maxHeartbeats 2000000 in
theorem next_ok (n : Nat) (view : Int) (a : Option Addr) (cap : Nat) (zs : List Int) (w : World) (hr : right n view) (ho : zs.any (oddB n) = false) (hm : zs.length ≤ 9223372036854775807) (hc : ReadsI w a zs) :
    Calls Try.prog 22 #[.int .i64 n, .int .i64 view, .slice a zs.length cap] w fun e w' => ∃ x f, e = .returned (.tuple #[.int .i64 x, .int .i64 f]) ∧ NX n view zs x f ∧ Chg [] w w' := by
  have hmf : ∀ (fn : Fn) (first cap : Array Value) (w : World), (Instr.makeFunc fn first cap).run Try.prog w = .ok (.func fn first cap) w := fun _ _ _ _ => rfl
  obtain ⟨W1, hW1⟩ : ∃ W1, w.alloc (.cells #[.int .i64 n] 3) = W1 := ⟨_, rfl⟩
  have c0 : W1.cell? ⟨w.heap.size, 0, none⟩ = some (.int .i64 n) := by rw [← hW1]; exact cell_of_has (has_alloc_new _ _) 0
  have hC1 : Chg [] w W1 := by rw [← hW1]; exact (Chg.refl _ _).alloc _
  have hc1 := hc.chg hC1 (by simp)
  have HC1 := Lib.hid hC1; have HRI := Lib.hid hc1; have HO := Lib.hid ho
  clear hC1 hc1 hc ho
  obtain ⟨r1, r2, r3, r4⟩ := hr
  go_enter Try.func22, Try.ntmps22
  go_wp2_with (first
    | (go_at_call 21; refine (turn_ok n view _ r1 r2 r3 r4).mono ?_; rintro e w1 ⟨rfl, rfl⟩)
    | (go_at_call 32; refine (sl_containsFunc w.heap.size n a cap zs _ c0 hm HRI.out).mono ?_; rw [HO.out]; rintro e w1 ⟨rfl, rfl⟩))
  go_loop [11] (fun i => ∃ j : Nat, j ≤ n ∧ i = .int .i64 (view + 1 + j) ∧ ∀ i, i < j → ¬ nxAt n view zs (i + 1)) (fun i => n + 1 - (intOf i - view).toNat)
  case atStart => exact ⟨0, by omega, by simp, by simp⟩
  case round =>
    obtain ⟨j, hj, rfl, hn⟩ := hrel
    have HN := Lib.hid hn; clear hn
    by_cases hlt : j < n
    · by_cases hbig : view + 1 + j ≤ 1099511627776
      · have ht := turn_ok n (view + 1 + j) W1 r1 r2 (by omega) hbig
        obtain ⟨nd, hnd⟩ : ∃ nd, (view + 1 + j) % n + 1 = nd := ⟨_, rfl⟩
        rw [hnd] at ht
        have hnd' : (view + (j + 1 : Nat)) % n + 1 = nd := by rw [← hnd]; congr 2; omega
        by_cases hmem : nd ∈ zs
        · have hd : decide (0 ≤ idxOf zs nd) = true := by simpa using (idxOf_mem zs nd).2 hmem
          have HX : Hid (¬ nxAt n view zs (j + 1)) := Lib.hid (fun h => h.2 (by rw [hnd']; exact hmem))
          clear hnd hnd' hmem
          go_wp2_with (first
            | (go_at_call 21; refine ht.mono ?_; rintro e w1 ⟨rfl, rfl⟩)
            | (go_at_call 33; refine (sl_contains a zs.length cap zs nd _ rfl hm HRI.out).mono ?_; rw [hd]; rintro e w1 ⟨rfl, rfl⟩))
          refine ⟨⟨j+1, by omega, by go_num, ?_⟩, by simp [intOf]; omega⟩
          intro i hi
          by_cases e : i = j
          · subst e; exact HX.out
          · exact HN.out i (by omega)
        · have hd : decide (0 ≤ idxOf zs nd) = false := by simpa using fun h => hmem ((idxOf_mem zs nd).1 h)
          have HX : Hid (nxAt n view zs (j + 1)) := Lib.hid ⟨by omega, by rw [hnd']; exact hmem⟩
          clear hnd hnd' hmem
          go_wp2_with (first
            | (go_at_call 21; refine ht.mono ?_; rintro e w1 ⟨rfl, rfl⟩)
            | (go_at_call 33; refine (sl_contains a zs.length cap zs nd _ rfl hm HRI.out).mono ?_; rw [hd]; rintro e w1 ⟨rfl, rfl⟩))
          exact bodyPost_ret (v := .tuple #[.int .i64 (view + 1 + j), .int .i64 0]) (by simp [results, Try.results22, go_sem]) rfl ⟨_, _, rfl, Or.inl ⟨j, hlt, by omega, rfl, HX.out, HN.out⟩, HC1.out⟩
      · have ht := turn_bad n (view + 1 + j) W1 (by omega)
        have HX : Hid (∀ i, i < n → ¬ nxAt n view zs (i + 1)) := Lib.hid (by
          intro i hi
          by_cases e : i < j
          · exact HN.out i e
          · intro h; have := h.1; omega)
        go_wp2_with (go_at_call 21; refine ht.mono ?_; rintro e w1 ⟨rfl, rfl⟩)
        exact bodyPost_ret (v := .tuple #[.int .i64 0, .int .i64 6]) (by simp [results, Try.results22, go_sem]) rfl ⟨_, _, rfl, Or.inr ⟨rfl, rfl, HX.out⟩, HC1.out⟩
    · obtain rfl : n = j := by omega
      go_wp2_with fail
      exact bodyPost_ret (v := .tuple #[.int .i64 0, .int .i64 6]) (by simp [results, Try.results22, go_sem]) rfl ⟨_, _, rfl, Or.inr ⟨rfl, rfl, HN.out⟩, HC1.out⟩

end Go.Proofs.Ytogianigkpldcaa
