/- The walks of package king: one contract a function. -/
import Derived.Test.YtgiackgdceanhaaBase
namespace Go.Proofs.Ytgiackgdceanhaa
set_option linter.unusedVariables false
set_option linter.unusedSimpArgs false
open Go.RowKit

def kingObj (n f s v r : Int) (bk : Bool) : Obj := .cells #[.int .i64 n, .int .i64 f, .int .i64 s, .int .i64 v, .int .i64 r, .bool bk] 99 (0,0)

structure KN (w : World) (b : Nat) (n f s v r : Int) (bk : Bool) : Prop where
  h : w.heap[b]? = some (kingObj n f s v r bk)

theorem KN.c0 {w b n f s v r bk} (h : KN w b n f s v r bk) : w.cell? ⟨b, 0, none⟩ = some (.int .i64 n) := by simp [World.cell?, h.h, kingObj]
theorem KN.c1 {w b n f s v r bk} (h : KN w b n f s v r bk) : w.cell? ⟨b, 1, none⟩ = some (.int .i64 f) := by simp [World.cell?, h.h, kingObj]
theorem KN.c2 {w b n f s v r bk} (h : KN w b n f s v r bk) : w.cell? ⟨b, 2, none⟩ = some (.int .i64 s) := by simp [World.cell?, h.h, kingObj]
theorem KN.c3 {w b n f s v r bk} (h : KN w b n f s v r bk) : w.cell? ⟨b, 3, none⟩ = some (.int .i64 v) := by simp [World.cell?, h.h, kingObj]
theorem KN.c4 {w b n f s v r bk} (h : KN w b n f s v r bk) : w.cell? ⟨b, 4, none⟩ = some (.int .i64 r) := by simp [World.cell?, h.h, kingObj]
theorem KN.c5 {w b n f s v r bk} (h : KN w b n f s v r bk) : w.cell? ⟨b, 5, none⟩ = some (.bool bk) := by simp [World.cell?, h.h, kingObj]

set_option maxHeartbeats 400000 in
theorem king_rounds (b : Nat) (n f s v r : Int) (bk : Bool) (w : World) (h : KN w b n f s v r bk) (hf : 0 ≤ f) (hf2 : f ≤ 100) :
    Calls Try.prog 23 #[.pointer (some ⟨b, 0, none⟩)] w fun e w' => e = .returned (.int .i64 (3 * (f+1))) ∧ w' = w := by
  have h1 := h.c1
  go_enter Try.func23, Try.ntmps23
  go_wp2
  go_ret
  exact ⟨rfl, rfl⟩

set_option maxHeartbeats 400000 in
theorem king_over (b : Nat) (n f s v r : Int) (bk : Bool) (w : World) (h : KN w b n f s v r bk) (hf : 0 ≤ f) (hf2 : f ≤ 100) :
    Calls Try.prog 42 #[.pointer (some ⟨b, 0, none⟩)] w fun e w' => e = .returned (.bool (r == 3 * (f+1))) ∧ ∃ k, w' = w.drewN k := by
  have h4 := h.c4
  go_enter Try.func42, Try.ntmps42
  go_wp2_with fail
  go_quiet ((go_at_call 23; exact Calls.quiet_of_same (king_rounds b n f s v r bk _ ⟨h.h⟩ hf hf2)))
  go_wp2
  go_ret
  exact ⟨rfl, _, rfl⟩

set_option maxHeartbeats 400000 in
theorem king_send (b : Nat) (n f s v r : Int) (bk : Bool) (w : World) (h : KN w b n f s v r bk) (hf : 0 ≤ f) (hf2 : f ≤ 100) :
    Calls Try.prog 21 #[.pointer (some ⟨b, 0, none⟩)] w fun e w' => e = .returned (.int .i64 (if r = 3 * (f+1) then 2 else v)) ∧ ∃ k, w' = w.drewN k := by
  have h3 := h.c3
  by_cases hr : r = 3 * (f+1)
  · have hb : (r == 3 * (f+1)) = true := by simp [hr]
    go_enter Try.func21, Try.ntmps21
    go_wp2_with fail
    refine (king_over b n f s v r bk _ h hf hf2).mono ?_
    rw [hb]
    rintro e w' ⟨rfl, k, rfl⟩
    go_wp2
    go_ret
    exact ⟨rfl, _, rfl⟩
  · have hb : (r == 3 * (f+1)) = false := by simp [hr]
    go_enter Try.func21, Try.ntmps21
    go_wp2_with fail
    refine (king_over b n f s v r bk _ h hf hf2).mono ?_
    rw [hb]
    rintro e w' ⟨rfl, k, rfl⟩
    go_wp2
    go_ret
    exact ⟨rfl, _, rfl⟩

def cnt (zs : List Int) (x : Int) : Int := (zs.filter (· == x)).length
def clampw (x : Int) : Int := if x = 0 then 0 else if x = 1 then 1 else 2
def cc (zs : List Int) (x : Int) : Int := cnt (zs.map clampw) x

theorem cc_bd (zs : List Int) (x : Int) : 0 ≤ cc zs x ∧ cc zs x ≤ zs.length := by
  unfold cc cnt
  have := List.length_filter_le (· == x) (zs.map clampw)
  simp at this
  simp
  omega

theorem cc_snoc (zs : List Int) (y x : Int) : cc (zs ++ [y]) x = cc zs x + if clampw y = x then 1 else 0 := by
  unfold cc cnt
  by_cases h : clampw y = x <;> simp [h]

def cobj (zs : List Int) : Obj := .cells #[.int .i64 (cc zs 0), .int .i64 (cc zs 1), .int .i64 (cc zs 2)] 102

set_option maxHeartbeats 400000 in
theorem king_counts (a : Option Addr) (len cap : Nat) (zs : List Int) (w : World) (hl : len = zs.length) (hm : len ≤ 9223372036854775807) (hc : ReadsI w a zs) :
    Calls Try.prog 47 #[.slice a len cap] w fun e w' => e = .returned (.agg #[.int .i64 (cc zs 0), .int .i64 (cc zs 1), .int .i64 (cc zs 2)]) ∧ Below w.heap.size w w' := by
  subst hl
  go_enter Try.func47, Try.ntmps47
  go_wp2
  go_loopw [8] (fun i wr => ∃ k : Nat, k ≤ zs.length ∧ i = .int .i64 k ∧ wr = (w.alloc (.cells #[.int .i64 0, .int .i64 0, .int .i64 0] 102)).alloc (.cells #[.int .i64 (cc (zs.take k) 0), .int .i64 (cc (zs.take k) 1), .int .i64 (cc (zs.take k) 2)] 102)) (fun i _ => zs.length - (intOf i).toNat)
  case atStart => exact ⟨0, Nat.zero_le _, rfl, rfl⟩
  case round =>
    obtain ⟨k, hk, rfl, rfl⟩ := hrel
    by_cases hlt : k < zs.length
    · obtain ⟨b, off, rfl, hb, hcell0⟩ := hc (by omega)
      have hcell := hcell0 k hlt
      clear hc hcell0
      have hts := take_snocI zs k hlt
      have hlen : (zs.take k).length ≤ k := List.length_take_le _ _
      have b0 := cc_bd (zs.take k) 0
      have b1 := cc_bd (zs.take k) 1
      have b2 := cc_bd (zs.take k) 2
      generalize hz : zs.getD k 0 = z at *
      have q0 := cc_snoc (zs.take k) z 0
      have q1 := cc_snoc (zs.take k) z 1
      have q2 := cc_snoc (zs.take k) z 2
      rw [← hts] at q0 q1 q2
      generalize cc (zs.take k) 0 = x0 at *
      generalize cc (zs.take k) 1 = x1 at *
      generalize cc (zs.take k) 2 = x2 at *
      have Q0 := Lib.hid q0; have Q1 := Lib.hid q1; have Q2 := Lib.hid q2; have HZ := Lib.hid hz
      clear q0 q1 q2 hts hz
      by_cases hz0 : z = 0
      · subst hz0
        go_wp2
        refine ⟨⟨k+1, by omega, by go_num, ?_⟩, by simp [intOf]; omega⟩
        rw [Q0.out, Q1.out, Q2.out]; simp [clampw]
      · by_cases hz1 : z = 1
        · subst hz1
          go_wp2
          refine ⟨⟨k+1, by omega, by go_num, ?_⟩, by simp [intOf]; omega⟩
          rw [Q0.out, Q1.out, Q2.out]; simp [clampw]
        · have t0 : (z != 0) = true := by simpa using hz0
          have t1 : (z != 1) = true := by simpa using hz1
          have e0 : clampw z = 2 := by simp [clampw, hz0, hz1]
          have E0 := Lib.hid e0
          clear e0
          go_wp2
          refine ⟨⟨k+1, by omega, by go_num, ?_⟩, by simp [intOf]; omega⟩
          rw [Q0.out, Q1.out, Q2.out, E0.out]; simp
    · have hk' : zs.take k = zs := List.take_of_length_le (by omega)
      rw [hk']
      go_wp2
      exact bodyPost_ret (v := .agg #[.int .i64 (cc zs 0), .int .i64 (cc zs 1), .int .i64 (cc zs 2)]) (by simp [results, Try.results47, go_sem]) rfl ⟨rfl, ((Below.refl _ _).alloc (Nat.le_refl _) _).alloc (by simp) _⟩

end Go.Proofs.Ytgiackgdceanhaa
