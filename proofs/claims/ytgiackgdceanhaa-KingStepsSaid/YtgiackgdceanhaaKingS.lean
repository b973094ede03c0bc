/- The walks of the document's answer for king. -/
import Derived.Test.YtgiackgdceanhaaKingL
namespace Go.Proofs.Ytgiackgdceanhaa
set_option linter.unusedVariables false
set_option linter.unusedSimpArgs false
open Go.RowKit

def refObj (n f s v r q : Int) : Obj := .cells #[.int .i64 n, .int .i64 f, .int .i64 s, .int .i64 v, .int .i64 r, .int .i64 q] 61 (0,0)

structure RN (w : World) (b : Nat) (n f s v r q : Int) : Prop where
  h : w.heap[b]? = some (refObj n f s v r q)

theorem RN.c0 {w b n f s v r q} (h : RN w b n f s v r q) : w.cell? ⟨b, 0, none⟩ = some (.int .i64 n) := by simp [World.cell?, h.h, refObj]
theorem RN.c1 {w b n f s v r q} (h : RN w b n f s v r q) : w.cell? ⟨b, 1, none⟩ = some (.int .i64 f) := by simp [World.cell?, h.h, refObj]
theorem RN.c3 {w b n f s v r q} (h : RN w b n f s v r q) : w.cell? ⟨b, 3, none⟩ = some (.int .i64 v) := by simp [World.cell?, h.h, refObj]
theorem RN.c4 {w b n f s v r q} (h : RN w b n f s v r q) : w.cell? ⟨b, 4, none⟩ = some (.int .i64 r) := by simp [World.cell?, h.h, refObj]
theorem RN.c5 {w b n f s v r q} (h : RN w b n f s v r q) : w.cell? ⟨b, 5, none⟩ = some (.int .i64 q) := by simp [World.cell?, h.h, refObj]
theorem RN.set3 {w b n f s v r q} (h : RN w b n f s v r q) (x : Int) : RN (w.setCell ⟨b, 3, none⟩ (.int .i64 x)) b n f s x r q := ⟨by rw [has_set h.h]; rfl⟩
theorem RN.set4 {w b n f s v r q} (h : RN w b n f s v r q) (x : Int) : RN (w.setCell ⟨b, 4, none⟩ (.int .i64 x)) b n f s v x q := ⟨by rw [has_set h.h]; rfl⟩
theorem RN.set5 {w b n f s v r q} (h : RN w b n f s v r q) (x : Int) : RN (w.setCell ⟨b, 5, none⟩ (.int .i64 x)) b n f s v r x := ⟨by rw [has_set h.h]; rfl⟩
theorem RN.drewN {w b n f s v r q} (h : RN w b n f s v r q) (k : Nat) : RN (w.drewN k) b n f s v r q := ⟨h.h⟩
theorem RN.lt {w b n f s v r q} (h : RN w b n f s v r q) : b < w.heap.size := lt_of_has h.h
theorem RN.fz {w b n f s v r q} (h : RN w b n f s v r q) (i : Nat) : w.frozen? ⟨b, i, none⟩ = false := frozen_of_has h.h i
theorem RN.chg {S w w' b n f s v r q} (h : RN w b n f s v r q) (hc : Chg S w w') (hs : b ∉ S) : RN w' b n f s v r q := ⟨hc.has h.h hs⟩

set_option maxHeartbeats 400000 in
theorem ref_rounds (b : Nat) (n f s v r q : Int) (w : World) (hK : RN w b n f s v r q) (hf : 0 ≤ f) (hf2 : f ≤ 100) :
    Calls Try.prog 24 #[.pointer (some ⟨b, 0, none⟩)] w fun e w' => e = .returned (.int .i64 (3 * (f+1))) ∧ w' = w := by
  have f1 := hK.c1
  go_enter Try.func24, Try.ntmps24
  go_wp2
  go_ret
  exact ⟨rfl, rfl⟩

set_option maxHeartbeats 400000 in
theorem ref_send (b : Nat) (n f s v r q : Int) (w : World) (hK : RN w b n f s v r q) (hf : 0 ≤ f) (hf2 : f ≤ 100) :
    Calls Try.prog 22 #[.pointer (some ⟨b, 0, none⟩)] w fun e w' => e = .returned (.int .i64 (if r = 3 * (f+1) then 2 else v)) ∧ ∃ k, w' = w.drewN k := by
  have f3 := hK.c3
  have f4 := hK.c4
  generalize hV : (if r = 3 * (f+1) then 2 else v) = V
  have HV := Lib.hid hV
  clear hV
  by_cases hr : r = 3 * (f + 1)
  · have hb : (r == 3 * (f+1)) = true := by simp [hr]
    have HR := Lib.hid hr; clear hr
    go_enter Try.func22, Try.ntmps22
    go_wp2_with fail
    go_quiet ((go_at_call 24; exact Calls.quiet_of_same (ref_rounds b n f s v r q _ ⟨hK.h⟩ hf hf2)))
    go_wp2
    go_ret
    obtain rfl : V = 2 := by rw [← HV.out, if_pos HR.out]
    exact ⟨rfl, _, rfl⟩
  · have hb : (r == 3 * (f+1)) = false := by simp [hr]
    go_enter Try.func22, Try.ntmps22
    go_wp2_with fail
    go_quiet ((go_at_call 24; exact Calls.quiet_of_same (ref_rounds b n f s v r q _ ⟨hK.h⟩ hf hf2)))
    go_wp2
    go_ret
    obtain rfl : V = v := by rw [← HV.out, if_neg hr]
    exact ⟨rfl, _, rfl⟩

set_option maxHeartbeats 1000000 in
theorem ref_count (a : Option Addr) (len cap : Nat) (x : Int) (hx : x = 0 ∨ x = 1 ∨ x = 2) (zs : List Int) (w : World) (hl : zs.length = len) (hm : len ≤ 9223372036854775807) (hc : ReadsI w a zs) :
    Calls Try.prog 46 #[.slice a len cap, .int .i64 x] w fun e w' => e = .returned (.int .i64 (cc zs x)) ∧ w' = w := by
  subst hl
  have hmain : ∀ (y : Int), y = x → Calls Try.prog 46 #[.slice a zs.length cap, .int .i64 y] w fun e w' => e = .returned (.int .i64 (cc zs y)) ∧ w' = w := by
    intro y hy
    rw [← hy] at hx
    clear hy
    go_enter Try.func46, Try.ntmps46
    go_wp2_with fail
    go_loop [5, 10] (fun n i => ∃ k : Nat, k ≤ zs.length ∧ i = .int .i64 k ∧ n = .int .i64 (cc (zs.take k) y)) (fun _ i => zs.length - (intOf i).toNat)
    case atStart => exact ⟨0, Nat.zero_le _, rfl, rfl⟩
    case round =>
      obtain ⟨k, hk, rfl, rfl⟩ := hrel
      by_cases hlt : k < zs.length
      · obtain ⟨b, off, rfl, hb, hcell0⟩ := hc (by omega)
        have hcell := hcell0 k hlt
        clear hc hcell0
        have hts := take_snocI zs k hlt
        have hlen : (zs.take k).length ≤ k := List.length_take_le _ _
        have b0 := cc_bd (zs.take k) y
        generalize hz : zs.getD k 0 = z at *
        have q0 := cc_snoc (zs.take k) z y
        rw [← hts] at q0
        generalize cc (zs.take k) y = x0 at *
        have Q0 := Lib.hid q0; have HZ := Lib.hid hz
        clear q0 hts hz
        have hcz : clampw z = 0 ∧ z = 0 ∨ clampw z = 1 ∧ z = 1 ∨ clampw z = 2 ∧ z ≠ 0 ∧ z ≠ 1 := by unfold clampw; split <;> (try split) <;> omega
        rcases hx with rfl | rfl | rfl <;> rcases hcz with ⟨e0, rfl⟩ | ⟨e0, rfl⟩ | ⟨e0, n0, n1⟩
        all_goals
          first
          | (have t0 : (z != 0) = true := by simpa using n0
             have t1 : (z != 1) = true := by simpa using n1
             have t2 : (z == 0) = false := by simpa using n0
             have t3 : (z == 1) = false := by simpa using n1
             clear n0 n1)
          | skip
          have E0 := Lib.hid e0
          clear e0
        all_goals
          go_wp2
          all_goals
            refine ⟨⟨k+1, by omega, by go_num, ?_⟩, by simp [intOf]; omega⟩
            rw [Q0.out, E0.out]; simp
      · have hk' : zs.take k = zs := List.take_of_length_le (by omega)
        rw [hk']
        go_wp2
        go_ret
        exact ⟨rfl, rfl⟩
  exact hmain x rfl


set_option maxHeartbeats 1000000 in
theorem ref_hear_over (b : Nat) (n f s v r q : Int) (A : Value) (w : World) (hK : RN w b n f s v r q) (hf : 0 ≤ f ∧ f ≤ 100) (hr : r = 3 * (f + 1)) :
    Calls Try.prog 26 #[.pointer (some ⟨b, 0, none⟩), A] w fun e w' => e = .returned (.int .i64 7) ∧ ∃ k, w' = w.drewN k := by
  have hb : (r == 3 * (f+1)) = true := by simp [hr]
  have f4 := hK.c4
  have HR := Lib.hid hr; clear hr
  go_enter Try.func26, Try.ntmps26
  go_wp2_with fail
  go_quiet ((go_at_call 24; exact Calls.quiet_of_same (ref_rounds b n f s v r q _ ⟨hK.h⟩ hf.1 hf.2)))
  go_wp2
  go_ret
  exact ⟨rfl, _, rfl⟩

set_option maxHeartbeats 1000000 in
theorem ref_hear_len (b : Nat) (n f s v r q : Int) (a : Option Addr) (len cap : Nat) (w : World) (hK : RN w b n f s v r q) (hf : 0 ≤ f ∧ f ≤ 100) (hr : r ≠ 3 * (f + 1))
    (hl : (len : Int) ≠ n) (hm : len ≤ 9223372036854775807) :
    Calls Try.prog 26 #[.pointer (some ⟨b, 0, none⟩), .slice a len cap] w fun e w' => e = .returned (.int .i64 1) ∧ ∃ k, w' = w.drewN k := by
  have hb : (r == 3 * (f+1)) = false := by simp [hr]
  have hl' : ((len : Int) != n) = true := by simp [hl]
  have f0 := hK.c0
  have f4 := hK.c4
  go_enter Try.func26, Try.ntmps26
  go_wp2_with fail
  go_quiet ((go_at_call 24; exact Calls.quiet_of_same (ref_rounds b n f s v r q _ ⟨hK.h⟩ hf.1 hf.2)))
  go_wp2
  go_ret
  exact ⟨rfl, _, rfl⟩

/-- A quiet callee behind a quiet region: the draws add up. -/
theorem quiet_add_same {P : Program} {f : FuncId} {args : Array Value} {w : World} {a n : Nat} {v : Value}
    (h : Calls P f args (w.drewN (a + n)) fun e w' => e = .returned v ∧ w' = w.drewN (a + n)) :
    Calls P f args (w.drewN (a + n)) fun e w'' => e = .returned v ∧ ∃ m, w'' = w.drewN (a + m) :=
  h.mono fun _ _ hh => ⟨hh.1, n, hh.2⟩

set_option maxRecDepth 100000 in
set_option maxHeartbeats 4000000 in
/-- The first round. -/
theorem ref_hear_0 (b : Nat) (n f s v r q : Int) (a : Option Addr) (len cap : Nat) (zs : List Int) (w : World) (hK : RN w b n f s v r q) (hf : 0 ≤ f ∧ f ≤ 100) (hr : r ≠ 3 * (f + 1))
    (hr0 : 0 ≤ r) (hr3 : r < 3 * (f + 1)) (hfn : f < n) (hn : n ≤ 100) (hz : zs.length = len) (hl : (len : Int) = n) (hc : ReadsI w a zs) (hcb : ∀ c o, a = some ⟨c, o, none⟩ → c ≠ b) (h0 : r % 3 = 0) :
    Calls Try.prog 26 #[.pointer (some ⟨b, 0, none⟩), .slice a len cap] w fun e w' => e = .returned (.int .i64 0) ∧
      RN w' b n f s (exV n f zs) (r + 1) q ∧ Chg [b] w w' := by
  have hb : (r == 3 * (f+1)) = false := by simp [hr]
  have hl' : ((len : Int) != n) = false := by simp [hl]
  have t0 : (r % 3 == 0) = true := by simp [h0]
  have hm : len ≤ 9223372036854775807 := by omega
  have hq : r.tmod 3 = r % 3 := Int.tmod_eq_emod_of_nonneg hr0
  have hws : IntKind.i64.wrap (n - f) = n - f := IntWalk.i64_in _ (by omega)
  have f0 := hK.c0
  have f1 := hK.c1
  have f3 := hK.c3
  have f4 := hK.c4
  have z3 := hK.fz 3
  have z4 := hK.fz 4
  have hlt := hK.lt
  generalize hV : exV n f zs = V
  have HV := Lib.hid hV
  have HL := Lib.hid hl; have HQ := Lib.hid hq; have H0 := Lib.hid h0; have HZ := Lib.hid hz
  clear hV hl hr hq h0 hz
  have hcW : ∀ W', Chg [b] w W' → ReadsI W' a zs := fun W' hh => hc.chg hh (by intro c o he; simp; exact hcb c o he)
  have HCW := Lib.hid hcW
  have b0 := cc_bd zs 0
  have b1 := cc_bd zs 1
  clear hcW hc hcb
  have C0 : ∀ W', Chg [b] w W' → Calls Try.prog 46 #[.slice a len cap, .int .i64 0] W' fun e w' => e = .returned (.int .i64 (cc zs 0)) ∧ w' = W' := fun W' hh => ref_count a len cap 0 (.inl rfl) zs _ HZ.out hm (HCW.out _ hh)
  have C1 : ∀ W', Chg [b] w W' → Calls Try.prog 46 #[.slice a len cap, .int .i64 1] W' fun e w' => e = .returned (.int .i64 (cc zs 1)) ∧ w' = W' := fun W' hh => ref_count a len cap 1 (.inr (.inl rfl)) zs _ HZ.out hm (HCW.out _ hh)
  generalize hx0 : cc zs 0 = x0 at *
  generalize hx1 : cc zs 1 = x1 at *
  have hVV : V = if n - f ≤ x1 then 1 else if n - f ≤ x0 then 0 else 2 := by rw [← HV.out]; unfold exV; rw [hx0, hx1]
  have HVV := Lib.hid hVV; have HC0 := Lib.hid C0; have HC1 := Lib.hid C1; have HX0 := Lib.hid hx0; have HX1 := Lib.hid hx1
  clear hVV C0 C1 hx0 hx1
  by_cases hp0 : n - f ≤ x0 <;> by_cases hp1 : n - f ≤ x1
  all_goals
    have hvv := HVV.out
    simp only [hp0, hp1, if_true, if_false] at hvv
    clear HVV
    subst hvv
    go_enter Try.func26, Try.ntmps26
    go_wp2_with fail
    go_quiet ((go_at_call 24; exact Calls.quiet_of_same (ref_rounds b n f s v r q _ ⟨hK.h⟩ hf.1 hf.2)))
    go_wp2_with fail
    go_quiet ((go_at_call 46; exact Calls.quiet_of_same (HC0.out _ (by exact (((Chg.refl _ _).drewN _).setCell (by simp) _).drewN _))))
    go_wp2_with fail
    go_quiet ((go_at_call 46; first | exact Calls.quiet_of_same (HC1.out _ (by repeat first | exact Chg.refl _ _ | apply Chg.drewN | refine Chg.setCell ?_ (by simp) _)) | exact quiet_add_same (HC1.out _ (by repeat first | exact Chg.refl _ _ | apply Chg.drewN | refine Chg.setCell ?_ (by simp) _))))
    go_wp2_with fail
    go_ret
    refine ⟨rfl, ?_, ?_⟩
    · repeat first | exact hK | apply RN.set4 | apply RN.drewN | apply RN.set3
    · repeat first | exact Chg.refl _ _ | apply Chg.drewN | refine Chg.setCell ?_ (by simp) _

set_option maxRecDepth 100000 in
set_option maxHeartbeats 4000000 in
/-- The second round. -/
theorem ref_hear_1 (b : Nat) (n f s v r q : Int) (a : Option Addr) (len cap : Nat) (zs : List Int) (w : World) (hK : RN w b n f s v r q) (hf : 0 ≤ f ∧ f ≤ 100) (hr : r ≠ 3 * (f + 1))
    (hv : v = 0 ∨ v = 1 ∨ v = 2)
    (hr0 : 0 ≤ r) (hr3 : r < 3 * (f + 1)) (hfn : f < n) (hn : n ≤ 100) (hz : zs.length = len) (hl : (len : Int) = n) (hc : ReadsI w a zs) (hcb : ∀ c o, a = some ⟨c, o, none⟩ → c ≠ b) (h0 : r % 3 = 1) :
    Calls Try.prog 26 #[.pointer (some ⟨b, 0, none⟩), .slice a len cap] w fun e w' => e = .returned (.int .i64 0) ∧
      RN w' b n f s (seV v f zs) (r + 1) (cc zs (seV v f zs)) ∧ Chg [b] w w' := by
  have hb : (r == 3 * (f+1)) = false := by simp [hr]
  have hl' : ((len : Int) != n) = false := by simp [hl]
  have t0 : (r % 3 == 0) = false := by simp [h0]
  have t1 : (r % 3 == 1) = true := by simp [h0]
  have hm : len ≤ 9223372036854775807 := by omega
  have hq : r.tmod 3 = r % 3 := Int.tmod_eq_emod_of_nonneg hr0
  have f0 := hK.c0
  have f1 := hK.c1
  have f3 := hK.c3
  have f4 := hK.c4
  have f5 := hK.c5
  have z3 := hK.fz 3
  have z4 := hK.fz 4
  have z5 := hK.fz 5
  have hlt := hK.lt
  have hsv := seV_cases v f zs hv
  generalize hV : seV v f zs = V at *
  have HV := Lib.hid hV
  have HL := Lib.hid hl; have HQ := Lib.hid hq; have H0 := Lib.hid h0; have HZ := Lib.hid hz
  clear hV hl hr hq h0 hz
  have hcW : ∀ W', Chg [b] w W' → ReadsI W' a zs := fun W' hh => hc.chg hh (by intro c o he; simp; exact hcb c o he)
  have HCW := Lib.hid hcW
  have b0 := cc_bd zs 0
  have b1 := cc_bd zs 1
  have b2 := cc_bd zs 2
  clear hcW hc hcb
  have C0 : ∀ W', Chg [b] w W' → Calls Try.prog 46 #[.slice a len cap, .int .i64 0] W' fun e w' => e = .returned (.int .i64 (cc zs 0)) ∧ w' = W' := fun W' hh => ref_count a len cap 0 (.inl rfl) zs _ HZ.out hm (HCW.out _ hh)
  have C1 : ∀ W', Chg [b] w W' → Calls Try.prog 46 #[.slice a len cap, .int .i64 1] W' fun e w' => e = .returned (.int .i64 (cc zs 1)) ∧ w' = W' := fun W' hh => ref_count a len cap 1 (.inr (.inl rfl)) zs _ HZ.out hm (HCW.out _ hh)
  have C2 : ∀ W', Chg [b] w W' → Calls Try.prog 46 #[.slice a len cap, .int .i64 2] W' fun e w' => e = .returned (.int .i64 (cc zs 2)) ∧ w' = W' := fun W' hh => ref_count a len cap 2 (.inr (.inr rfl)) zs _ HZ.out hm (HCW.out _ hh)
  have CV : ∀ W' V', V' = V → Chg [b] w W' → Calls Try.prog 46 #[.slice a len cap, .int .i64 V'] W' fun e w' => e = .returned (.int .i64 (cc zs V)) ∧ w' = W' := fun W' V' he hh => by subst he; exact ref_count a len cap V' hsv zs _ HZ.out hm (HCW.out _ hh)
  have bV := cc_bd zs V
  generalize cc zs V = xV at *
  generalize hx0 : cc zs 0 = x0 at *
  generalize hx1 : cc zs 1 = x1 at *
  generalize hx2 : cc zs 2 = x2 at *
  have hVV : V = if f < x0 then 0 else if f < x1 then 1 else if f < x2 then 2 else v := by rw [← HV.out]; unfold seV; rw [hx0, hx1, hx2]
  have HVV := Lib.hid hVV; have HC0 := Lib.hid C0; have HC1 := Lib.hid C1; have HC2 := Lib.hid C2; have HCV := Lib.hid CV; have HX0 := Lib.hid hx0; have HX1 := Lib.hid hx1; have HX2 := Lib.hid hx2
  have HSV := Lib.hid hsv; have HVC := Lib.hid hv
  clear hVV C0 C1 C2 CV hx0 hx1 hx2 hsv hv
  by_cases hp0 : f < x0 <;> by_cases hp1 : f < x1 <;> by_cases hp2 : f < x2
  all_goals
    have hvv := HVV.out
    simp only [hp0, hp1, hp2, if_true, if_false] at hvv
    have HVE := Lib.hid hvv.symm
    obtain ⟨X, hX⟩ : ∃ X : Int, X = if f < x1 then 1 else if f < x2 then 2 else v := ⟨_, rfl⟩
    simp only [hp1, hp2, if_true, if_false] at hX
    have HX := Lib.hid hX.symm
    clear hX
    clear hvv
    go_enter Try.func26, Try.ntmps26
    go_wp2_with fail
    go_quiet ((go_at_call 24; exact Calls.quiet_of_same (ref_rounds b n f s v r q _ ⟨hK.h⟩ hf.1 hf.2)))
    go_wp2_with fail
    go_quiet ((go_at_call 46; first | exact Calls.quiet_of_same (HC2.out _ (by repeat first | exact Chg.refl _ _ | apply Chg.drewN | refine Chg.setCell ?_ (by simp) _)) | exact quiet_add_same (HC2.out _ (by repeat first | exact Chg.refl _ _ | apply Chg.drewN | refine Chg.setCell ?_ (by simp) _))))
    go_wp2_with fail
    go_quiet ((go_at_call 46; first | exact Calls.quiet_of_same (HC1.out _ (by repeat first | exact Chg.refl _ _ | apply Chg.drewN | refine Chg.setCell ?_ (by simp) _)) | exact quiet_add_same (HC1.out _ (by repeat first | exact Chg.refl _ _ | apply Chg.drewN | refine Chg.setCell ?_ (by simp) _))))
    go_wp2_with fail
    go_quiet ((go_at_call 46; first | exact Calls.quiet_of_same (HC0.out _ (by repeat first | exact Chg.refl _ _ | apply Chg.drewN | refine Chg.setCell ?_ (by simp) _)) | exact quiet_add_same (HC0.out _ (by repeat first | exact Chg.refl _ _ | apply Chg.drewN | refine Chg.setCell ?_ (by simp) _))))
    generalize hW : World.drewN _ _ = W
    obtain ⟨x, hxx, hKW, hCW⟩ : ∃ x, x = X ∧ RN W b n f s x r q ∧ Chg [b] w W := by
      rw [← hW]
      refine ⟨_, HX.out, ?_, by repeat first | exact Chg.refl _ _ | apply Chg.drewN | refine Chg.setCell ?_ (by simp) _⟩
      repeat first | exact hK | apply RN.drewN | apply RN.set3
    clear hW
    rw [← HX.out] at hxx
    subst hxx
    have g0 := hKW.c0; have g1 := hKW.c1; have g3 := hKW.c3; have g4 := hKW.c4; have g5 := hKW.c5
    have y3 := hKW.fz 3; have y4 := hKW.fz 4; have y5 := hKW.fz 5
    go_wp2_with fail
    refine Calls.mono (HCV.out _ _ HVE.out ?_) ?_
    · repeat first | exact hCW | apply Chg.drewN | refine Chg.setCell ?_ (by simp) _
    rintro e w2 ⟨rfl, hw2⟩
    obtain rfl := hw2.symm
    clear hw2
    go_wp2_with fail
    go_ret
    refine ⟨rfl, ?_, ?_⟩
    · rw [← HVE.out]
      repeat first | exact hKW | apply RN.set4 | apply RN.set5 | apply RN.drewN | apply RN.set3
    · repeat first | exact hCW | apply Chg.drewN | refine Chg.setCell ?_ (by simp) _

end Go.Proofs.Ytgiackgdceanhaa
