/- The walks of package king, third part: Hear. -/
import Derived.Test.YtgiackgdceanhaaKingB
namespace Go.Proofs.Ytgiackgdceanhaa
set_option linter.unusedVariables false
set_option linter.unusedSimpArgs false
open Go.RowKit

def crV (v r : Int) (bk : Bool) (zs : List Int) : Int := if v ≠ 2 ∧ bk = true then v else if zs.getD (r / 3).toNat 0 = 0 then 0 else 1

set_option maxHeartbeats 1000000 in
theorem king_crown (b : Nat) (n f s v r : Int) (bk : Bool) (a : Option Addr) (cap : Nat) (zs : List Int) (w : World) (hK : KN w b n f s v r bk)
    (hr : 0 ≤ r) (hr2 : r / 3 < zs.length) (hm : zs.length ≤ 9223372036854775807) (hc : ReadsI w a zs) (hcb : ∀ c o, a = some ⟨c, o, none⟩ → c ≠ b) :
    Calls Try.prog 45 #[.pointer (some ⟨b, 0, none⟩), .slice a zs.length cap] w fun e w' => e = .returned (.tuple #[]) ∧
      KN w' b n f s (crV v r bk zs) r bk ∧ Chg [b] w w' := by
  obtain ⟨k, hk⟩ : ∃ k : Nat, r / 3 = k := ⟨(r/3).toNat, by omega⟩
  have hk' : k < zs.length := by omega
  obtain ⟨c, o, rfl, hcl, hcc⟩ := hc (by omega)
  have hcell := hcc k hk'
  have hcne := hcb c o rfl
  clear hcc hcb
  have f3 := hK.c3
  have f4 := hK.c4
  have f5 := hK.c5
  have z3 := hK.fz 3
  have hz0 : zs.getD (r / 3).toNat 0 = zs.getD k 0 := by rw [hk]; rfl
  generalize zs.getD k 0 = z at *
  have HZ0 := Lib.hid hz0
  have HK := Lib.hid hk
  have hq : (r.tdiv 3) = (k : Int) := by rw [Int.tdiv_eq_ediv_of_nonneg hr]; exact hk
  clear hk hz0
  generalize hV : crV v r bk zs = V
  have HV := Lib.hid hV
  clear hV
  by_cases hv : v = 2
  · have HVV := Lib.hid hv
    have hv1 : (v != 2) = false := by simp [hv]
    clear hv
    by_cases hz : z = 0
    · subst hz
      go_enter Try.func45, Try.ntmps45
      go_wp2
      go_end0
      obtain rfl : V = 0 := by rw [← HV.out]; simp only [crV, HZ0.out, HVV.out]; simp
      exact ⟨rfl, hK.set3 _, (Chg.refl _ _).setCell (by simp) _⟩
    · go_enter Try.func45, Try.ntmps45
      go_wp2
      go_end0
      obtain rfl : V = 1 := by rw [← HV.out]; simp only [crV, HZ0.out, HVV.out]; simp [hz]
      exact ⟨rfl, (hK.set3 _).set3 _, ((Chg.refl _ _).setCell (by simp) _).setCell (by simp) _⟩
  · have hv1 : (v != 2) = true := by simp [hv]
    cases bk
    · by_cases hz : z = 0
      · subst hz
        go_enter Try.func45, Try.ntmps45
        go_wp2
        go_end0
        obtain rfl : V = 0 := by rw [← HV.out]; simp only [crV, HZ0.out]; simp
        exact ⟨rfl, hK.set3 _, (Chg.refl _ _).setCell (by simp) _⟩
      · go_enter Try.func45, Try.ntmps45
        go_wp2
        go_end0
        obtain rfl : V = 1 := by rw [← HV.out]; simp only [crV, HZ0.out]; simp [hz]
        exact ⟨rfl, (hK.set3 _).set3 _, ((Chg.refl _ _).setCell (by simp) _).setCell (by simp) _⟩
    · go_enter Try.func45, Try.ntmps45
      go_wp2
      refine bodyPost_ret (results_none rfl _ _ _) rfl ?_
      obtain rfl : V = v := by rw [← HV.out]; simp [crV, hv]
      exact ⟨rfl, hK, Chg.refl _ _⟩

/-- A node's state behind a round: none where it is refused. -/
def hearV (n f v r : Int) (bk : Bool) (zs : List Int) : Int × Bool :=
  if r % 3 = 0 then (exV n f zs, bk) else if r % 3 = 1 then (seV v f zs, decide (n - f ≤ cc zs (seV v f zs))) else (crV v r bk zs, bk)

set_option maxHeartbeats 1000000 in
theorem king_hear_over (b : Nat) (n f s v r : Int) (bk : Bool) (A : Value) (w : World) (hK : KN w b n f s v r bk) (hf : 0 ≤ f ∧ f ≤ 100) (hr : r = 3 * (f + 1)) :
    Calls Try.prog 25 #[.pointer (some ⟨b, 0, none⟩), A] w fun e w' => e = .returned (.int .i64 7) ∧ ∃ k, w' = w.drewN k := by
  have hb : (r == 3 * (f+1)) = true := by simp [hr]
  go_enter Try.func25, Try.ntmps25
  go_wp2_with fail
  refine (king_over b n f s v r bk _ hK hf.1 hf.2).mono ?_
  rw [hb]
  rintro e w' ⟨rfl, k, rfl⟩
  go_wp2
  go_ret
  exact ⟨rfl, _, rfl⟩

set_option maxHeartbeats 1000000 in
theorem king_hear_len (b : Nat) (n f s v r : Int) (bk : Bool) (a : Option Addr) (len cap : Nat) (w : World) (hK : KN w b n f s v r bk) (hf : 0 ≤ f ∧ f ≤ 100) (hr : r ≠ 3 * (f + 1))
    (hl : (len : Int) ≠ n) (hm : len ≤ 9223372036854775807) :
    Calls Try.prog 25 #[.pointer (some ⟨b, 0, none⟩), .slice a len cap] w fun e w' => e = .returned (.int .i64 1) ∧ ∃ k, w' = w.drewN k := by
  have hb : (r == 3 * (f+1)) = false := by simp [hr]
  have hl' : ((len : Int) != n) = true := by simp [hl]
  have f0 := hK.c0
  go_enter Try.func25, Try.ntmps25
  go_wp2_with fail
  refine (king_over b n f s v r bk _ hK hf.1 hf.2).mono ?_
  rw [hb]
  rintro e w' ⟨rfl, k, rfl⟩
  go_wp2
  go_ret
  exact ⟨rfl, _, rfl⟩

set_option maxHeartbeats 1000000 in
theorem king_hear_ok (b : Nat) (n f s v r : Int) (bk : Bool) (a : Option Addr) (cap : Nat) (zs : List Int) (w : World) (hK : KN w b n f s v r bk) (hf : 0 ≤ f ∧ f ≤ 100) (hr : r ≠ 3 * (f + 1))
    (hv : v = 0 ∨ v = 1 ∨ v = 2) (hr0 : 0 ≤ r) (hr3 : r < 3 * (f + 1)) (hfn : f < n) (hn : n ≤ 100)
    (hl : (zs.length : Int) = n) (hc : ReadsI w a zs) (hcb : ∀ c o, a = some ⟨c, o, none⟩ → c ≠ b) :
    Calls Try.prog 25 #[.pointer (some ⟨b, 0, none⟩), .slice a zs.length cap] w fun e w' => e = .returned (.int .i64 0) ∧
      KN w' b n f s (hearV n f v r bk zs).1 (r + 1) (hearV n f v r bk zs).2 ∧ Chg [b] w w' := by
  have hb : (r == 3 * (f+1)) = false := by simp [hr]
  have hl' : ((zs.length : Int) != n) = false := by simp [hl]
  have f0 := hK.c0
  have f4 := hK.c4
  have z4 := hK.fz 4
  have hmm : zs.length ≤ 9223372036854775807 := by omega
  have hr6 : r / 3 < zs.length := by omega
  have HL := Lib.hid hl
  clear hl hr
  generalize hV : hearV n f v r bk zs = V
  obtain ⟨V, BK⟩ := V
  have HV := Lib.hid hV
  clear hV
  have hcases : r % 3 = 0 ∨ r % 3 = 1 ∨ r % 3 = 2 := by omega
  rcases hcases with h0 | h0 | h0
  · have t0 : (r % 3 == 0) = true := by simp [h0]
    unfold hearV at HV
    have HV' := HV.out
    rw [if_pos h0] at HV'
    simp only [Prod.mk.injEq] at HV'
    obtain ⟨e1, e2⟩ := HV'
    clear HV h0
    subst e2
    have E1 := Lib.hid e1
    clear e1
    go_enter Try.func25, Try.ntmps25
    go_wp2_with fail
    refine (king_over b n f s v r bk _ hK hf.1 hf.2).mono ?_
    rw [hb]
    rintro e w' ⟨rfl, k, rfl⟩
    go_wp2_with fail
    refine (king_exchange b n f s v r bk a cap zs _ (hK.drewN k) (by omega) (by omega) (by omega) hc).mono ?_
    rintro e w1 ⟨rfl, hK1, hc1⟩
    have g4 := hK1.c4
    have y4 := hK1.fz 4
    go_wp2_with fail
    go_ret
    refine ⟨rfl, ?_, ?_⟩
    · rw [← E1.out]; exact hK1.set4 _
    · exact ((((Chg.refl _ _).drewN k).trans hc1).setCell (by simp) _)
  · have t0 : (r % 3 == 0) = false := by simp [h0]
    have t1 : (r % 3 == 1) = true := by simp [h0]
    unfold hearV at HV
    have HV' := HV.out
    rw [if_neg (by omega), if_pos h0] at HV'
    simp only [Prod.mk.injEq] at HV'
    obtain ⟨e1, e2⟩ := HV'
    clear HV h0
    have E1 := Lib.hid e1
    have E2 := Lib.hid e2
    clear e1 e2
    go_enter Try.func25, Try.ntmps25
    go_wp2_with fail
    refine (king_over b n f s v r bk _ hK hf.1 hf.2).mono ?_
    rw [hb]
    rintro e w' ⟨rfl, k, rfl⟩
    go_wp2_with fail
    refine (king_second b n f s v r bk a cap zs _ (hK.drewN k) hv (by omega) (by omega) (by omega) hc).mono ?_
    rintro e w1 ⟨rfl, hK1, hc1⟩
    have g4 := hK1.c4
    have y4 := hK1.fz 4
    go_wp2_with fail
    go_ret
    refine ⟨rfl, ?_, ?_⟩
    · rw [← E1.out, ← E2.out]; exact hK1.set4 _
    · exact ((((Chg.refl _ _).drewN k).trans hc1).setCell (by simp) _)
  · have t0 : (r % 3 == 0) = false := by simp [h0]
    have t1 : (r % 3 == 1) = false := by simp [h0]
    unfold hearV at HV
    have HV' := HV.out
    rw [if_neg (by omega), if_neg (by omega)] at HV'
    simp only [Prod.mk.injEq] at HV'
    obtain ⟨e1, e2⟩ := HV'
    clear HV h0
    subst e2
    have E1 := Lib.hid e1
    clear e1
    go_enter Try.func25, Try.ntmps25
    go_wp2_with fail
    refine (king_over b n f s v r bk _ hK hf.1 hf.2).mono ?_
    rw [hb]
    rintro e w' ⟨rfl, k, rfl⟩
    go_wp2_with fail
    refine (king_crown b n f s v r bk a cap zs _ (hK.drewN k) (by omega) (by omega) (by omega) hc hcb).mono ?_
    rintro e w1 ⟨rfl, hK1, hc1⟩
    have g4 := hK1.c4
    have y4 := hK1.fz 4
    go_wp2_with fail
    go_ret
    refine ⟨rfl, ?_, ?_⟩
    · rw [← E1.out]; exact hK1.set4 _
    · exact ((((Chg.refl _ _).drewN k).trans hc1).setCell (by simp) _)

set_option maxHeartbeats 400000 in
theorem king_round (b : Nat) (n f s v r : Int) (bk : Bool) (w : World) (hK : KN w b n f s v r bk) :
    Calls Try.prog 27 #[.pointer (some ⟨b, 0, none⟩)] w fun e w' => e = .returned (.int .i64 r) ∧ w' = w := by
  have f4 := hK.c4
  go_enter Try.func27, Try.ntmps27
  go_wp2
  go_ret
  exact ⟨rfl, rfl⟩

set_option maxHeartbeats 400000 in
theorem king_done_yes (b : Nat) (n f s v r : Int) (bk : Bool) (w : World) (hK : KN w b n f s v r bk) (hf : 0 ≤ f) (hf2 : f ≤ 100) (hr : r = 3 * (f + 1)) :
    Calls Try.prog 28 #[.pointer (some ⟨b, 0, none⟩)] w fun e w' => e = .returned (.tuple #[.int .i64 v, .bool true]) ∧ ∃ k, w' = w.drewN k := by
  have hb : (r == 3 * (f+1)) = true := by simp [hr]
  have f3 := hK.c3
  go_enter Try.func28, Try.ntmps28
  go_wp2_with fail
  refine (king_over b n f s v r bk _ hK hf hf2).mono ?_
  rw [hb]
  rintro e w' ⟨rfl, k, rfl⟩
  go_wp2_with fail
  go_ret2
  exact ⟨rfl, _, rfl⟩

set_option maxHeartbeats 400000 in
theorem king_done_no (b : Nat) (n f s v r : Int) (bk : Bool) (w : World) (hK : KN w b n f s v r bk) (hf : 0 ≤ f) (hf2 : f ≤ 100) (hr : r ≠ 3 * (f + 1)) :
    Calls Try.prog 28 #[.pointer (some ⟨b, 0, none⟩)] w fun e w' => e = .returned (.tuple #[.int .i64 0, .bool false]) ∧ ∃ k, w' = w.drewN k := by
  have hb : (r == 3 * (f+1)) = false := by simp [hr]
  go_enter Try.func28, Try.ntmps28
  go_wp2_with fail
  refine (king_over b n f s v r bk _ hK hf hf2).mono ?_
  rw [hb]
  rintro e w' ⟨rfl, k, rfl⟩
  go_wp2_with fail
  go_ret2
  exact ⟨rfl, _, rfl⟩

/-- What makes a node. -/
def okNew (n f s v : Int) : Prop := 1 ≤ n ∧ n ≤ 10 ∧ 0 ≤ f ∧ 3 * f < n ∧ 1 ≤ s ∧ s ≤ n ∧ (v = 0 ∨ v = 1)

set_option maxHeartbeats 1000000 in
theorem king_new_ok (n f s v : Int) (w : World) (hk : okNew n f s v) :
    Calls Try.prog 18 #[.int .i64 n, .int .i64 f, .int .i64 s, .int .i64 v] w fun e w' => e = .returned (.tuple #[.pointer (some ⟨w.heap.size, 0, none⟩), .int .i64 0]) ∧
      w' = w.alloc (kingObj n f s v 0 false) := by
  obtain ⟨h1, h2, h3, h4, h5, h6, h7⟩ := hk
  rcases h7 with rfl | rfl
  · go_enter Try.func18, Try.ntmps18
    go_wp2
    go_ret2
    exact ⟨rfl, rfl⟩
  · go_enter Try.func18, Try.ntmps18
    go_wp2
    go_ret2
    exact ⟨rfl, rfl⟩

end Go.Proofs.Ytgiackgdceanhaa
