/- BeatTurns: the walk of the document's answer, and of the law. -/
import Derived.Test.YtogianigkpldcaaBeatH
namespace Go.Proofs.Ytogianigkpldcaa
set_option linter.unusedVariables false
set_option linter.unusedSimpArgs false
open Go.RowKit

theorem mem_take_succ {zs : List Int} {k : Nat} {x : Int} (h : k < zs.length) : decide (x ∈ zs.take (k + 1)) = (decide (x ∈ zs.take k) || zs.getD k 0 == x) := by
  rw [take_snocI zs k h]
  rw [Bool.eq_iff_iff]
  simp only [List.mem_append, List.mem_singleton, decide_eq_true_eq, Bool.or_eq_true, beq_iff_eq]
  constructor
  · rintro (h | h)
    · exact Or.inl h
    · exact Or.inr h.symm
  · rintro (h | h)
    · exact Or.inl h
    · exact Or.inr h.symm

set_option maxHeartbeats 1000000 in
theorem ref_next_bad (n view : Int) (a : Option Addr) (cap : Nat) (zs : List Int) (w : World) (hb : ¬ right n view) :
    Calls Try.prog 23 #[.int .i64 n, .int .i64 view, .slice a zs.length cap] w fun e w' => e = .returned (.tuple #[.int .i64 0, .int .i64 1]) ∧ w = w' := by
  have hb' : n < 1 ∨ (1 ≤ n ∧ 10 < n) ∨ (1 ≤ n ∧ n ≤ 10 ∧ view < 0) ∨ (1 ≤ n ∧ n ≤ 10 ∧ 0 ≤ view ∧ 1099511627776 < view) := by unfold right at hb; omega
  clear hb
  rcases hb' with h1 | ⟨h1, h2⟩ | ⟨h1, h2, h3⟩ | ⟨h1, h2, h3, h4⟩
  all_goals
    go_enter Try.func23, Try.ntmps23
    go_wp2_with fail
    exact bodyPost_ret (v := .tuple #[.int .i64 0, .int .i64 1]) (by simp [results, Try.results23, go_sem]) rfl ⟨rfl, rfl⟩

/-- What the document's Next tells of numbers that are right. -/
def RX (n : Nat) (view : Int) (zs : List Int) (x f : Int) : Prop := (zs.any (oddB n) = true → x = 0 ∧ f = 1) ∧ (zs.any (oddB n) = false → NX n view zs x f)

set_option maxHeartbeats 4000000 in
theorem ref_next (n : Nat) (view : Int) (a : Option Addr) (cap : Nat) (zs : List Int) (w : World) (hr : right n view) (hm : zs.length ≤ 9223372036854775807) (hc : ReadsI w a zs) :
    Calls Try.prog 23 #[.int .i64 n, .int .i64 view, .slice a zs.length cap] w fun e w' => ∃ x f, e = .returned (.tuple #[.int .i64 x, .int .i64 f]) ∧
      RX n view zs x f ∧ w = w' := by
  have HRI := Lib.hid hc
  clear hc
  obtain ⟨r1, r2, r3, r4⟩ := hr
  go_enter Try.func23, Try.ntmps23
  go_wp2_with fail
  go_loop [31] (fun i => ∃ k : Nat, k ≤ zs.length ∧ i = .int .i64 k ∧ (zs.take k).any (oddB n) = false) (fun i => zs.length - (intOf i).toNat)
  case atStart => exact ⟨0, Nat.zero_le _, rfl, by simp⟩
  case round =>
    obtain ⟨k, hk, rfl, hn⟩ := hrel
    have HN := Lib.hid hn; clear hn
    by_cases hlt : k < zs.length
    · obtain ⟨ba, off, rfl, hb, hcell0⟩ := HRI.out (by omega)
      have hcell := hcell0 k hlt
      have hs := any_take_succ (oddB n) hlt
      have hmem : zs.getD k 0 ∈ zs := by simp [List.getD, hlt]
      have HX : oddB n (zs.getD k 0) = true → zs.any (oddB n) = true := fun hx => List.any_eq_true.2 ⟨_, hmem, hx⟩
      clear hcell0 hmem
      obtain ⟨z, hz⟩ : ∃ z, zs.getD k 0 = z := ⟨_, rfl⟩
      rw [hz] at hcell hs HX
      have HS := Lib.hid hs
      clear hz hs
      by_cases h1 : z < 1
      · have HY := Lib.hid (HX (by simp [oddB, h1]))
        clear HX
        go_wp2_with fail
        refine bodyPost_ret (v := .tuple #[.int .i64 0, .int .i64 1]) (by simp [results, Try.results23, go_sem]) rfl ⟨_, _, rfl, ?_, rfl⟩
        exact ⟨fun _ => ⟨rfl, rfl⟩, fun h => by rw [HY.out] at h; exact absurd h (by decide)⟩
      · by_cases h2 : (n : Int) < z
        · have HY := Lib.hid (HX (by simp [oddB, h2]))
          clear HX
          go_wp2_with fail
          refine bodyPost_ret (v := .tuple #[.int .i64 0, .int .i64 1]) (by simp [results, Try.results23, go_sem]) rfl ⟨_, _, rfl, ?_, rfl⟩
          exact ⟨fun _ => ⟨rfl, rfl⟩, fun h => by rw [HY.out] at h; exact absurd h (by decide)⟩
        · have HO : Hid (oddB n z = false) := Lib.hid (by simp [oddB, h1, h2])
          clear HX
          go_wp2_with fail
          refine ⟨⟨k+1, by omega, by go_num, ?_⟩, by simp [intOf]; omega⟩
          rw [HS.out, HN.out, HO.out]; rfl
    · obtain rfl : zs.length = k := by omega
      rw [List.take_length] at HN
      have HF : Hid (¬ zs.any (oddB n) = true) := Lib.hid (by rw [HN.out]; decide)
      go_wp2_with fail
      go_loop [10] (fun i => ∃ j : Nat, j ≤ n ∧ i = .int .i64 (j + 1) ∧ ∀ i, i < j → ¬ nxAt n view zs (i + 1)) (fun i => n + 1 - (intOf i).toNat)
      case atStart => exact ⟨0, by omega, by simp, by simp⟩
      case round =>
        obtain ⟨j, hj, rfl, hn⟩ := hrel
        have HN := Lib.hid hn; clear hn
        by_cases hlt : j < n
        · by_cases hbig : view + (j + 1) ≤ 1099511627776
          · have e3 : (view + (j + 1)).tmod n = (view + (j + 1)) % n := Int.tmod_eq_emod_of_nonneg (by omega)
            have b1 := Int.emod_nonneg (view + (j + 1)) (b := (n : Int)) (by omega)
            have b2 := Int.emod_lt_of_pos (view + (j + 1)) (b := (n : Int)) (by omega)
            obtain ⟨r, hr⟩ : ∃ r, (view + (j + 1)) % (n : Int) = r := ⟨_, rfl⟩
            have hnd' : (view + (j + 1 : Nat)) % n + 1 = r + 1 := by rw [← hr]; congr 2
            rw [hr] at e3 b1 b2
            have n0 : ¬ (n : Int) = 0 := by omega
            have HND := Lib.hid hnd'
            clear hr hnd'
            go_wp2_with fail
            go_loop [12, 62] (fun th i => ∃ m : Nat, m ≤ zs.length ∧ i = .int .i64 m ∧ th = .bool (decide (r + 1 ∈ zs.take m))) (fun _ i => zs.length - (intOf i).toNat)
            case atStart => exact ⟨0, by omega, rfl, by simp⟩
            case round =>
              obtain ⟨m, hmm, rfl, rfl⟩ := hrel
              by_cases hml : m < zs.length
              · obtain ⟨ba, off, rfl, hb, hcell0⟩ := HRI.out (by omega)
                have hcell := hcell0 m hml
                have hms := mem_take_succ (zs := zs) (k := m) (x := r + 1) hml
                generalize zs.getD m 0 = y at *
                generalize decide (r + 1 ∈ zs.take m) = th at *
                have HMS := Lib.hid hms
                clear hms hcell0
                cases th
                · go_wp2_with fail
                  refine ⟨⟨m+1, by omega, by go_num, ?_⟩, by simp [intOf]; omega⟩
                  rw [HMS.out]; rfl
                · go_wp2_with fail
                  refine ⟨⟨m+1, by omega, by go_num, ?_⟩, by simp [intOf]; omega⟩
                  rw [HMS.out]; rfl
              · obtain rfl : zs.length = m := by omega
                rw [List.take_length]
                by_cases hmem : r + 1 ∈ zs
                · have HX : Hid (¬ nxAt n view zs (j + 1)) := Lib.hid (fun h => h.2 (by rw [HND.out]; exact hmem))
                  rw [show decide (r + 1 ∈ zs) = true from by simpa using hmem]
                  clear hmem
                  go_wp2_with fail
                  refine ⟨⟨j+1, by omega, by go_num, ?_⟩, by simp [intOf]; omega⟩
                  intro i hi
                  by_cases e : i = j
                  · subst e; exact HX.out
                  · exact HN.out i (by omega)
                · have HX : Hid (nxAt n view zs (j + 1)) := Lib.hid ⟨by omega, by rw [HND.out]; exact hmem⟩
                  rw [show decide (r + 1 ∈ zs) = false from by simpa using hmem]
                  clear hmem
                  go_wp2_with fail
                  refine bodyPost_ret (v := .tuple #[.int .i64 (view + (j + 1)), .int .i64 0]) (by simp [results, Try.results23, go_sem]) rfl ⟨_, _, rfl, ?_, rfl⟩
                  exact ⟨fun h => absurd h HF.out, fun _ => Or.inl ⟨j, hlt, by omega, rfl, HX.out, HN.out⟩⟩
          · have HX : Hid (∀ i, i < n → ¬ nxAt n view zs (i + 1)) := Lib.hid (by
              intro i hi
              by_cases e : i < j
              · exact HN.out i e
              · intro h; have := h.1; omega)
            go_wp2_with fail
            refine bodyPost_ret (v := .tuple #[.int .i64 0, .int .i64 6]) (by simp [results, Try.results23, go_sem]) rfl ⟨_, _, rfl, ?_, rfl⟩
            exact ⟨fun h => absurd h HF.out, fun _ => Or.inr ⟨rfl, rfl, HX.out⟩⟩
        · obtain rfl : n = j := by omega
          go_wp2_with fail
          refine bodyPost_ret (v := .tuple #[.int .i64 0, .int .i64 6]) (by simp [results, Try.results23, go_sem]) rfl ⟨_, _, rfl, ?_, rfl⟩
          exact ⟨fun h => absurd h HF.out, fun _ => Or.inr ⟨rfl, rfl, HN.out⟩⟩

set_option maxRecDepth 100000 in
set_option maxHeartbeats 4000000 in
theorem beat_turns_any (n view : Int) (a : Option Addr) (cap : Nat) (zs : List Int) (W : World) (hm : zs.length ≤ 9223372036854775807) (hc : ReadsI W a zs) :
    Calls Try.prog 8 #[.int .i64 n, .int .i64 view, .slice a zs.length cap] W fun e w' => e = .returned (.bool true) ∧ Below W.heap.size W w' := by
  have HRI := Lib.hid hc
  clear hc
  by_cases hr : right n view
  · obtain ⟨k, rfl⟩ : ∃ k : Nat, n = k := ⟨n.toNat, by have := hr.1; omega⟩
    have HR := Lib.hid hr
    obtain ⟨r1, r2, r3, r4⟩ := hr
    have e3 : view.tmod k = view % k := Int.tmod_eq_emod_of_nonneg r3
    have b1 := Int.emod_nonneg view (b := (k : Int)) (by omega)
    have b2 := Int.emod_lt_of_pos view (b := (k : Int)) (by omega)
    have ht := turn_ok k view W r1 r2 r3 r4
    obtain ⟨r, hr⟩ : ∃ r, view % (k : Int) = r := ⟨_, rfl⟩
    rw [hr] at e3 b1 b2 ht
    have n0 : ¬ (k : Int) = 0 := by omega
    clear hr
    cases ho : zs.any (oddB k)
    · have HO := Lib.hid ho
      clear ho
      go_enter Try.func8, Try.ntmps8
      go_wp2_with (first
        | (go_at_call 21; refine ht.mono ?_; rintro e w1 ⟨rfl, rfl⟩)
        | (go_at_call 22; refine (next_ok k view a cap zs _ HR.out HO.out hm HRI.out).mono ?_; rintro e w1 ⟨x, f, rfl, hnx, hC1⟩; have HC1 := Lib.hid hC1; have HNX := Lib.hid hnx; clear hC1 hnx)
        | (go_at_call 23; refine (ref_next k view a cap zs _ HR.out hm (HRI.out.chg HC1.out (by simp))).mono ?_; rintro e w2 ⟨x2, f2, rfl, hrx, rfl⟩; obtain ⟨h1, h2⟩ := NX.one HNX.out (hrx.2 HO.out); subst h1; subst h2; clear hrx))
      refine (five_ok _).mono ?_
      rintro e w6 ⟨rfl, hC6⟩
      go_wp2_with fail
      go_ret
      exact ⟨rfl, (HC1.out.trans hC6).below⟩
    · have HO := Lib.hid ho
      clear ho
      go_enter Try.func8, Try.ntmps8
      go_wp2_with (first
        | (go_at_call 21; refine ht.mono ?_; rintro e w1 ⟨rfl, rfl⟩)
        | (go_at_call 22; refine (next_odds k view a cap zs _ HR.out HO.out hm HRI.out).mono ?_; rintro e w1 ⟨rfl, hC1⟩; have HC1 := Lib.hid hC1; clear hC1)
        | (go_at_call 23; refine (ref_next k view a cap zs _ HR.out hm (HRI.out.chg HC1.out (by simp))).mono ?_; rintro e w2 ⟨x2, f2, rfl, hrx, rfl⟩; obtain ⟨h1, h2⟩ := hrx.1 HO.out; subst h1; subst h2; clear hrx))
      refine (five_ok _).mono ?_
      rintro e w6 ⟨rfl, hC6⟩
      go_wp2_with fail
      go_ret
      exact ⟨rfl, (HC1.out.trans hC6).below⟩
  · have HR := Lib.hid hr
    have hb' : n < 1 ∨ (1 ≤ n ∧ 10 < n) ∨ (1 ≤ n ∧ n ≤ 10 ∧ view < 0) ∨ (1 ≤ n ∧ n ≤ 10 ∧ 0 ≤ view ∧ 1099511627776 < view) := by unfold right at hr; omega
    clear hr
    rcases hb' with h1 | ⟨h1, h2⟩ | ⟨h1, h2, h3⟩ | ⟨h1, h2, h3, h4⟩
    all_goals
      go_enter Try.func8, Try.ntmps8
      go_wp2_with (first
        | (go_at_call 21; refine (turn_bad n view _ HR.out).mono ?_; rintro e w1 ⟨rfl, rfl⟩)
        | (go_at_call 22; refine (next_bad n view a cap zs _ HR.out).mono ?_; rintro e w1 ⟨rfl, hC1⟩; have HC1 := Lib.hid hC1; clear hC1)
        | (go_at_call 23; refine (ref_next_bad n view a cap zs _ HR.out).mono ?_; rintro e w2 ⟨rfl, rfl⟩))
      refine (five_ok _).mono ?_
      rintro e w6 ⟨rfl, hC6⟩
      go_wp2_with fail
      go_ret
      exact ⟨rfl, (HC1.out.trans hC6).below⟩

section
open Go.WideShapes Go.ChangeShapes
variable {H : Type} (enc : TypeId × Value → H) (W : World)

theorem beatTurns_law {v0 v1 v2 : Value} {d0 d1 d2 : DataW H} {p0 p1 p2 : List MemPlace} {base : Nat}
    (h0 : DataW.Trod enc Try.prog W 0 (fun _ => true) true 3 v0 d0 p0) (k0 : Value.okWide Try.prog W .any base 3 v0)
    (h1 : DataW.Trod enc Try.prog W 0 (fun _ => true) true 3 v1 d1 p1) (k1 : Value.okWide Try.prog W .any base 3 v1)
    (h2 : DataW.Trod enc Try.prog W 0 (fun _ => true) true 30 v2 d2 p2) (k2 : Value.okWide Try.prog W .any base 30 v2)
    (_hsz : (DataW.weightsEach Try.prog [3, 3, 30] [d0, d1, d2]).all (· ≤ reachBytes) = true) :
    Calls Try.prog 8 #[v0, v1, v2] W fun e w' => e = .returned (.bool true) ∧ Below W.heap.size W w' := by
  obtain ⟨z, rfl, _⟩ := open_int (k := .i64) Try.underlying3 k0 h0
  obtain ⟨y, rfl, _⟩ := open_int (k := .i64) Try.underlying3 k1 h1
  obtain ⟨n2, g2⟩ := h2
  obtain ⟨a, len, cap, rfl⟩ := okWide_slice Try.underlying30 k2
  obtain ⟨A, c, zs, hv, hR, hz, _⟩ := open_sliceI Try.underlying30 Try.underlying3 (by kernel_rfl) g2
  injection hv with e1 e2 e3
  subst e1; subst e2; subst e3
  exact beat_turns_any z y _ _ zs W hz hR

end

end Go.Proofs.Ytogianigkpldcaa
