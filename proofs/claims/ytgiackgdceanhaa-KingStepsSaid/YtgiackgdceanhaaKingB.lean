/- The walks of package king, second part: its rounds. -/
import Derived.Test.YtgiackgdceanhaaKingA
namespace Go.Proofs.Ytgiackgdceanhaa
set_option linter.unusedVariables false
set_option linter.unusedSimpArgs false
open Go.RowKit

theorem KN.set3 {w b n f s v r bk} (h : KN w b n f s v r bk) (x : Int) : KN (w.setCell ⟨b, 3, none⟩ (.int .i64 x)) b n f s x r bk := ⟨by rw [has_set h.h]; rfl⟩
theorem KN.set4 {w b n f s v r bk} (h : KN w b n f s v r bk) (x : Int) : KN (w.setCell ⟨b, 4, none⟩ (.int .i64 x)) b n f s v x bk := ⟨by rw [has_set h.h]; rfl⟩
theorem KN.set5 {w b n f s v r bk} (h : KN w b n f s v r bk) (x : Bool) : KN (w.setCell ⟨b, 5, none⟩ (.bool x)) b n f s v r x := ⟨by rw [has_set h.h]; rfl⟩
theorem KN.drewN {w b n f s v r bk} (h : KN w b n f s v r bk) (k : Nat) : KN (w.drewN k) b n f s v r bk := ⟨h.h⟩
theorem KN.alloc {w b n f s v r bk} (h : KN w b n f s v r bk) (o : Obj) : KN (w.alloc o) b n f s v r bk := ⟨has_alloc h.h⟩
theorem KN.lt {w b n f s v r bk} (h : KN w b n f s v r bk) : b < w.heap.size := lt_of_has h.h
theorem KN.fz {w b n f s v r bk} (h : KN w b n f s v r bk) (i : Nat) : w.frozen? ⟨b, i, none⟩ = false := frozen_of_has h.h i
theorem KN.chg {S w w' b n f s v r bk} (h : KN w b n f s v r bk) (hc : Chg S w w') (hs : b ∉ S) : KN w' b n f s v r bk := ⟨hc.has h.h hs⟩
theorem KN.below {w w' b n f s v r bk} (h : KN w b n f s v r bk) (hc : Below w.heap.size w w') : KN w' b n f s v r bk := ⟨(hc.block b h.lt).trans h.h⟩

def exV (n f : Int) (zs : List Int) : Int := if n - f ≤ cc zs 1 then 1 else if n - f ≤ cc zs 0 then 0 else 2

set_option maxHeartbeats 1000000 in
theorem king_exchange (b : Nat) (n f s v r : Int) (bk : Bool) (a : Option Addr) (cap : Nat) (zs : List Int) (w : World) (h : KN w b n f s v r bk)
    (hn : 0 ≤ n ∧ n ≤ 100) (hf : 0 ≤ f ∧ f ≤ 100) (hm : zs.length ≤ 9223372036854775807) (hc : ReadsI w a zs) :
    Calls Try.prog 43 #[.pointer (some ⟨b, 0, none⟩), .slice a zs.length cap] w fun e w' => e = .returned (.tuple #[]) ∧ KN w' b n f s (exV n f zs) r bk ∧ Chg [b] w w' := by
  have key : ∀ p q : Bool, decide (n - f ≤ cc zs 0) = p → decide (n - f ≤ cc zs 1) = q → Calls Try.prog 43 #[.pointer (some ⟨b, 0, none⟩), .slice a zs.length cap] w fun e w' => e = .returned (.tuple #[]) ∧ KN w' b n f s (exV n f zs) r bk ∧ Chg [b] w w' := by
    intro p q hp hq
    have hx : exV n f zs = if q = true then 1 else if p = true then 0 else 2 := by
      subst hp; subst hq; simp [exV]
    rw [hx]; clear hx
    go_enter Try.func43, Try.ntmps43
    go_wp2_with fail
    refine (king_counts a zs.length cap zs w rfl hm hc).mono ?_
    rintro e w1 ⟨rfl, hb1⟩
    have b0 := cc_bd zs 0
    have b1 := cc_bd zs 1
    generalize cc zs 0 = x0 at *
    generalize cc zs 1 = x1 at *
    generalize cc zs 2 = x2 at *
    have h1 := h.below hb1
    have hlt := h1.lt
    have hne : ¬ b = w1.heap.size := by omega
    have f0 := h1.c0
    have f1 := h1.c1
    have f3 := h1.c3
    have z3 := h1.fz 3
    have hw : IntKind.i64.wrap (n - f) = n - f := IntWalk.i64_in _ (by omega)
    cases p <;> cases q <;> simp only [decide_eq_true_eq, decide_eq_false_iff_not] at hp hq
    all_goals
      go_wp2_with fail
      go_rounds 3
      go_quiet (fail)
      go_wp2
      rw [rounds_succ]
      go_wp2
      go_quiet (fail)
      go_wp2
      rw [rounds_succ]
      go_wp2
      go_end0
      refine ⟨rfl, ?_, ?_⟩
      · repeat first | exact h1 | apply KN.drewN | apply KN.alloc | apply KN.set3
      · repeat first | exact Chg.of_below hb1 _ | apply Chg.drewN | apply Chg.alloc | refine Chg.setCell ?_ (by simp) _
  exact key _ _ rfl rfl

def seV (v f : Int) (zs : List Int) : Int := if f < cc zs 0 then 0 else if f < cc zs 1 then 1 else if f < cc zs 2 then 2 else v

def seA (v f x0 x1 x2 k : Int) : Int := if k < 0 ∧ f < x0 then 0 else if k < 1 ∧ f < x1 then 1 else if k < 2 ∧ f < x2 then 2 else v

theorem seV_cases (v f : Int) (zs : List Int) (hv : v = 0 ∨ v = 1 ∨ v = 2) : seV v f zs = 0 ∨ seV v f zs = 1 ∨ seV v f zs = 2 := by
  unfold seV; repeat' split
  all_goals simp_all

set_option maxHeartbeats 2000000 in
theorem king_second (b : Nat) (n f s v r : Int) (bk : Bool) (a : Option Addr) (cap : Nat) (zs : List Int) (w : World) (h : KN w b n f s v r bk)
    (hv : v = 0 ∨ v = 1 ∨ v = 2)
    (hn : 0 ≤ n ∧ n ≤ 100) (hf : 0 ≤ f ∧ f ≤ 100) (hm : zs.length ≤ 9223372036854775807) (hc : ReadsI w a zs) :
    Calls Try.prog 44 #[.pointer (some ⟨b, 0, none⟩), .slice a zs.length cap] w fun e w' => e = .returned (.tuple #[]) ∧
      KN w' b n f s (seV v f zs) r (decide (n - f ≤ cc zs (seV v f zs))) ∧ Chg [b] w w' := by
  go_enter Try.func44, Try.ntmps44
  go_wp2_with fail
  refine (king_counts a zs.length cap zs w rfl hm hc).mono ?_
  rintro e w1 ⟨rfl, hb1⟩
  have b0 := cc_bd zs 0
  have b1 := cc_bd zs 1
  have b2 := cc_bd zs 2
  generalize hx0 : cc zs 0 = x0 at *
  generalize hx1 : cc zs 1 = x1 at *
  generalize hx2 : cc zs 2 = x2 at *
  have h1 := h.below hb1
  have hlt := h1.lt
  have hne : ¬ b = w1.heap.size := by omega
  have f0 := h1.c0
  have f1 := h1.c1
  have f3 := h1.c3
  have f5 := h1.c5
  have z3 := h1.fz 3
  have z5 := h1.fz 5
  have hw : IntKind.i64.wrap (n - f) = n - f := IntWalk.i64_in _ (by omega)
  have HX := Lib.hid (And.intro hx0 (And.intro hx1 hx2))
  clear hx0 hx1 hx2
  go_wp2_with fail
  go_loopw [5] (fun i wr => ∃ k : Int, -1 ≤ k ∧ k ≤ 2 ∧ i = .int .i64 k ∧
      KN wr b n f s (seA v f x0 x1 x2 k) r bk ∧
      wr.heap[w1.heap.size]? = some (.cells #[.int .i64 x0, .int .i64 x1, .int .i64 x2] 102) ∧ Chg [b] w wr) (fun i _ => (intOf i + 1).toNat)
  case atStart => 
    refine ⟨2, by omega, by omega, rfl, ?_, ?_, ?_⟩
    · exact h1.alloc _
    · exact has_alloc_new _ _
    · exact (Chg.of_below hb1 _).alloc _
  case round =>
    obtain ⟨k, hk0, hk2, rfl, hKN, harr, hchg⟩ := hrel
    generalize hV : seA v f x0 x1 x2 k = V at hKN
    have HV := Lib.hid hV
    clear hV
    have g0 : wr.cell? ⟨w1.heap.size, 0, none⟩ = some (.int .i64 x0) := cell_of_has harr 0
    have g1 : wr.cell? ⟨w1.heap.size, 1, none⟩ = some (.int .i64 x1) := cell_of_has harr 1
    have g2 : wr.cell? ⟨w1.heap.size, 2, none⟩ = some (.int .i64 x2) := cell_of_has harr 2
    clear f0 f1 f3 f5 z3 z5
    have f1 := hKN.c1
    have f3 := hKN.c3
    have z3 := hKN.fz 3
    by_cases hk : k = -1
    · subst hk
      have f0 := hKN.c0
      have f5 := hKN.c5
      have z5 := hKN.fz 5
      have hVV : V = seV v f zs := by
        rw [← HV.out]; unfold seV seA; rw [HX.out.1, HX.out.2.1, HX.out.2.2]; simp
      have hV3 := seV_cases v f zs hv
      rw [← hVV] at hV3
      have hfin : ∀ xx : Int, cc zs V = xx → decide (n - f ≤ cc zs V) = decide (n - f ≤ xx) := by
        rintro xx rfl; rfl
      have HF := Lib.hid hfin
      have HVV := Lib.hid hVV
      clear hfin hVV
      rcases hV3 with rfl | rfl | rfl
      all_goals
        go_wp2_with fail
        go_region
        go_end0
        refine ⟨rfl, ?_, ((hchg).setCell (by simp) _).drewN 1⟩
        rw [← HVV.out, HF.out _ (by first | exact HX.out.1 | exact HX.out.2.1 | exact HX.out.2.2)]
        exact (hKN.set5 _).drewN 1
    · have hk' : k = 0 ∨ k = 1 ∨ k = 2 := by omega
      rcases hk' with rfl | rfl | rfl
      · by_cases hq : f < x0
        · go_wp2_with fail
          go_quiet (fail)
          go_wp2
          refine ⟨⟨-1, by omega, by omega, rfl, ?_, has_far harr (by simp; omega) _, (hchg.drewN _).setCell (by simp) _⟩, by simp [intOf]⟩
          rw [show seA v f x0 x1 x2 (-1) = 0 from by simp [seA, hq]]; exact (hKN.drewN _).set3 _
        · go_wp2_with fail
          go_quiet (fail)
          go_wp2
          refine ⟨⟨-1, by omega, by omega, rfl, ?_, harr, hchg.drewN _⟩, by simp [intOf]⟩
          rw [show seA v f x0 x1 x2 (-1) = V from by rw [← HV.out]; simp [seA]; intro; omega]; exact hKN.drewN _
      · by_cases hq : f < x1
        · go_wp2_with fail
          go_quiet (fail)
          go_wp2
          refine ⟨⟨0, by omega, by omega, rfl, ?_, has_far harr (by simp; omega) _, (hchg.drewN _).setCell (by simp) _⟩, by simp [intOf]⟩
          rw [show seA v f x0 x1 x2 0 = 1 from by simp [seA, hq]]; exact (hKN.drewN _).set3 _
        · go_wp2_with fail
          go_quiet (fail)
          go_wp2
          refine ⟨⟨0, by omega, by omega, rfl, ?_, harr, hchg.drewN _⟩, by simp [intOf]⟩
          rw [show seA v f x0 x1 x2 0 = V from by rw [← HV.out]; simp [seA]; intro; omega]; exact hKN.drewN _
      · by_cases hq : f < x2
        · go_wp2_with fail
          go_quiet (fail)
          go_wp2
          refine ⟨⟨1, by omega, by omega, rfl, ?_, has_far harr (by simp; omega) _, (hchg.drewN _).setCell (by simp) _⟩, by simp [intOf]⟩
          rw [show seA v f x0 x1 x2 1 = 2 from by simp [seA, hq]]; exact (hKN.drewN _).set3 _
        · go_wp2_with fail
          go_quiet (fail)
          go_wp2
          refine ⟨⟨1, by omega, by omega, rfl, ?_, harr, hchg.drewN _⟩, by simp [intOf]⟩
          rw [show seA v f x0 x1 x2 1 = V from by rw [← HV.out]; simp [seA]; intro; omega]; exact hKN.drewN _

end Go.Proofs.Ytgiackgdceanhaa
