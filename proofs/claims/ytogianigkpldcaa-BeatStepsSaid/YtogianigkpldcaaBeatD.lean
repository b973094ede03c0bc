/- Package beat: the walks of Heard and Check. -/
import Derived.Test.YtogianigkpldcaaBeatC
namespace Go.Proofs.Ytogianigkpldcaa
set_option linter.unusedVariables false
set_option linter.unusedSimpArgs false
open Go.RowKit

theorem WT.ne {w : World} {p q n : Nat} {me now : Int} {f : Nat → Pr} (h : WT w p q n me now f) : p ≠ q := by
  rintro rfl
  obtain ⟨cs, h1, _⟩ := h.hq
  rw [h.hp] at h1
  injection h1 with h1
  injection h1 with _ h2 _
  exact absurd h2 (by decide)

/-- What is known behind a node was heard. -/
def heardF (f : Nat → Pr) (k : Nat) (now : Int) : Nat → Pr := fun i => if i = k then ⟨now, if (f k).silent = true then min 64 (2 * (f k).timeout) else (f k).timeout, false⟩ else f i

theorem PrOK.heard {n : Nat} {me now now' : Int} {f : Nat → Pr} (h : PrOK n me now f) (k : Nat) (hk : k ≤ n) (h1 : now ≤ now') (h2 : now' ≤ 1099511627776) : PrOK n me now' (heardF f k now') := by
  refine ⟨h.hn, h.hs, ⟨by have := h.hnow; omega, h2⟩, fun i hi => ?_⟩
  have hi0 := h.hf i hi
  have hk0 := h.hf k hk
  have := h.hnow
  unfold heardF
  by_cases e : i = k
  · rw [if_pos e]
    by_cases s : (f k).silent = true
    · simp only [if_pos s]; omega
    · simp only [if_neg s]; omega
  · rw [if_neg e]; omega

theorem WT.now {w : World} {p q n : Nat} {me now : Int} {f : Nat → Pr} (h : WT w p q n me now f) (now' : Int) (h1 : now ≤ now') (h2 : now' ≤ 1099511627776) : WT (w.setCell ⟨p, 1, none⟩ (.int .i64 now')) p q n me now' f :=
  ⟨has_set h.hp 1 _, h.hq.chg ((Chg.refl [p] w).setCell (Or.inl (by simp)) _) (by simp [h.ne.symm]), ⟨h.ok.hn, h.ok.hs, ⟨by have := h.ok.hnow; omega, h2⟩, fun i hi => by have := h.ok.hf i hi; omega⟩⟩

theorem WT.peers {w w' : World} {p q n : Nat} {me now : Int} {f g : Nat → Pr} (h : WT w p q n me now f) (hC : Chg [q] w w') (hq : Prs w' q n 65 g) (ok : PrOK n me now g) : WT w' p q n me now g :=
  ⟨hC.has h.hp (by simp [h.ne]), hq, ok⟩

theorem heard_wt {w : World} {p q n : Nat} {me now now' : Int} {f : Nat → Pr} {k : Nat} (h : WT w p q n me now f) (hk : k ≤ n) (h1 : now ≤ now') (h2 : now' ≤ 1099511627776) (hs : (f k).silent = false) :
    WT (((w.setCell ⟨p, 1, none⟩ (.int .i64 now')).setCell ⟨q, k * 3, none⟩ (.int .i64 now')).setCell ⟨q, k * 3 + 2, none⟩ (.bool false)) p q n me now' (heardF f k now') := by
  have h0 := h.now now' h1 h2
  refine h0.peers (((Chg.refl [q] _).setCell (Or.inl (by simp)) _).setCell (Or.inl (by simp)) _) (((h0.hq.set0 k now').set2 k false).same fun i hi => ?_) (h.ok.heard k hk h1 h2)
  unfold heardF
  by_cases e : i = k
  · subst e; simp [hs]
  · simp [e]

theorem heard_wt_was {w : World} {p q n : Nat} {me now now' : Int} {f : Nat → Pr} {k : Nat} (h : WT w p q n me now f) (hk : k ≤ n) (h1 : now ≤ now') (h2 : now' ≤ 1099511627776) (hs : (f k).silent = true) :
    WT ((((w.setCell ⟨p, 1, none⟩ (.int .i64 now')).setCell ⟨q, k * 3, none⟩ (.int .i64 now')).setCell ⟨q, k * 3 + 2, none⟩ (.bool false)).setCell ⟨q, k * 3 + 1, none⟩ (.int .i64 (min 64 (2 * (f k).timeout)))) p q n me now' (heardF f k now') := by
  have h0 := h.now now' h1 h2
  refine h0.peers ((((Chg.refl [q] _).setCell (Or.inl (by simp)) _).setCell (Or.inl (by simp)) _).setCell (Or.inl (by simp)) _) ((((h0.hq.set0 k now').set2 k false).set1 k _).same fun i hi => ?_) (h.ok.heard k hk h1 h2)
  unfold heardF
  by_cases e : i = k
  · subst e; simp [hs]
  · simp [e]

theorem heard_nil (x now : Int) (w : World) : Calls Try.prog 12 #[.pointer none, .int .i64 x, .int .i64 now] w fun e w' => e = .returned (.tuple #[.bool false, .int .i64 1]) ∧ w = w' := by
  go_enter Try.func12, Try.ntmps12
  go_wp2_with fail
  refine (beat_has_nil x _).mono ?_
  rintro e w1 ⟨rfl, rfl⟩
  go_wp2_with fail
  exact bodyPost_ret (v := .tuple #[.bool false, .int .i64 1]) (by simp [results, Try.results12, go_sem]) rfl ⟨rfl, rfl⟩

theorem heard_bad (p q n : Nat) (me now : Int) (f : Nat → Pr) (x now' : Int) (w : World) (hW : WT w p q n me now f) (hb : ¬ (1 ≤ x ∧ x ≤ n ∧ now ≤ now' ∧ now' ≤ 1099511627776)) :
    Calls Try.prog 12 #[.pointer (some ⟨p, 0, none⟩), .int .i64 x, .int .i64 now'] w fun e w' => e = .returned (.tuple #[.bool false, .int .i64 1]) ∧ w = w' := by
  have c1 : w.cell? ⟨p, 1, none⟩ = some (.int .i64 now) := cell_of_has hW.hp 1
  have HW := Lib.hid hW
  clear hW
  by_cases hx : 1 ≤ x ∧ x ≤ n
  · have h1 : (decide (1 ≤ x) && decide (x < n + 1)) = true := by simp; omega
    have h2 : (decide (now ≤ now') && decide (now' ≤ 1099511627776)) = false := by simp; omega
    clear hb hx
    go_enter Try.func12, Try.ntmps12
    go_wp2_with (first
      | (go_at_call 29; refine (beat_has p q n me now f x _ HW.out).mono ?_; rw [h1]; rintro e w1 ⟨rfl, rfl⟩)
      | (go_at_call 25; refine (beat_moment now' now _).mono ?_; rw [h2]; rintro e w1 ⟨rfl, rfl⟩))
    exact bodyPost_ret (v := .tuple #[.bool false, .int .i64 1]) (by simp [results, Try.results12, go_sem]) rfl ⟨rfl, rfl⟩
  · have h1 : (decide (1 ≤ x) && decide (x < n + 1)) = false := by simp; omega
    clear hb hx
    go_enter Try.func12, Try.ntmps12
    go_wp2_with (go_at_call 29; refine (beat_has p q n me now f x _ HW.out).mono ?_; rw [h1]; rintro e w1 ⟨rfl, rfl⟩)
    exact bodyPost_ret (v := .tuple #[.bool false, .int .i64 1]) (by simp [results, Try.results12, go_sem]) rfl ⟨rfl, rfl⟩

set_option maxHeartbeats 1000000 in
theorem heard_ok (p q n : Nat) (me now : Int) (f : Nat → Pr) (k : Nat) (now' : Int) (w : World) (hW : WT w p q n me now f) (hk1 : 1 ≤ k) (hk : k ≤ n) (h1 : now ≤ now') (h2 : now' ≤ 1099511627776) :
    Calls Try.prog 12 #[.pointer (some ⟨p, 0, none⟩), .int .i64 k, .int .i64 now'] w fun e w' =>
      e = .returned (.tuple #[.bool (f k).silent, .int .i64 0]) ∧ WT w' p q n me now' (heardF f k now') ∧ Chg [p, q] w w' := by
  have c1 : w.cell? ⟨p, 1, none⟩ = some (.int .i64 now) := cell_of_has hW.hp 1
  have c2 : w.cell? ⟨p, 2, none⟩ = some (.slice (some ⟨q, 0, none⟩) (n + 1) (n + 1)) := cell_of_has hW.hp 2
  have f1 : w.frozen? ⟨p, 1, none⟩ = false := frozen_of_has hW.hp 1
  have d0 := hW.hq.c0 hk
  have d1 := hW.hq.c1 hk
  have d2 := hW.hq.c2 hk
  have z0 := hW.hq.fz (k * 3)
  have z1 := hW.hq.fz (k * 3 + 1)
  have z2 := hW.hq.fz (k * 3 + 2)
  have hpq := hW.ne
  have hqp := hpq.symm
  have hn := hW.ok.hn
  have hto := hW.ok.hf k hk
  have hh : (decide (1 ≤ (k : Int)) && decide ((k : Int) < n + 1)) = true := by simp; omega
  have hm : (decide (now ≤ now') && decide (now' ≤ 1099511627776)) = true := by simp; omega
  cases hs : (f k).silent
  · have HX := Lib.hid (heard_wt hW hk h1 h2 hs)
    have HW := Lib.hid hW
    rw [hs] at d2
    clear hW hs hto
    go_enter Try.func12, Try.ntmps12
    go_wp2_with (first
      | (go_at_call 29; refine (beat_has p q n me now f k _ HW.out).mono ?_; rw [hh]; rintro e w1 ⟨rfl, rfl⟩)
      | (go_at_call 25; refine (beat_moment now' now _).mono ?_; rw [hm]; rintro e w1 ⟨rfl, rfl⟩))
    refine bodyPost_ret (v := .tuple #[.bool false, .int .i64 0]) (by simp [results, Try.results12, go_sem]) rfl ⟨rfl, HX.out, ?_⟩
    exact (((Chg.refl _ _).setCell (Or.inl (by simp)) _).setCell (Or.inl (by simp)) _).setCell (Or.inl (by simp)) _
  · have HX := Lib.hid (heard_wt_was hW hk h1 h2 hs)
    have HW := Lib.hid hW
    rw [hs] at d2
    clear hW hs
    generalize (f k).timeout = t at *
    generalize (f k).heard = he at *
    go_enter Try.func12, Try.ntmps12
    go_wp2_with (first
      | (go_at_call 29; refine (beat_has p q n me now f k _ HW.out).mono ?_; rw [hh]; rintro e w1 ⟨rfl, rfl⟩)
      | (go_at_call 25; refine (beat_moment now' now _).mono ?_; rw [hm]; rintro e w1 ⟨rfl, rfl⟩))
    · have hx := HX.out
      rw [show min 64 (2 * t) = 2 * t by omega] at hx
      refine bodyPost_ret (v := .tuple #[.bool true, .int .i64 0]) (by simp [results, Try.results12, go_sem]) rfl ⟨rfl, hx, ?_⟩
      exact ((((Chg.refl _ _).setCell (Or.inl (by simp)) _).setCell (Or.inl (by simp)) _).setCell (Or.inl (by simp)) _).setCell (Or.inl (by simp)) _
    · have hx := HX.out
      rw [show min 64 (2 * t) = 64 by omega] at hx
      refine bodyPost_ret (v := .tuple #[.bool true, .int .i64 0]) (by simp [results, Try.results12, go_sem]) rfl ⟨rfl, hx, ?_⟩
      exact ((((Chg.refl _ _).setCell (Or.inl (by simp)) _).setCell (Or.inl (by simp)) _).setCell (Or.inl (by simp)) _).setCell (Or.inl (by simp)) _

/-- What is known behind those of a list became silent. -/
def sil (f : Nat → Pr) (l : List Int) : Nat → Pr := fun i => if (i : Int) ∈ l then { f i with silent := true } else f i

theorem sil_nil (f : Nat → Pr) : sil f [] = f := by funext i; simp [sil]
theorem sil_snoc (f : Nat → Pr) (l : List Int) (k : Nat) : sil f (l ++ [(k : Int)]) = fun i => if i = k then { sil f l i with silent := true } else sil f l i := by
  funext i
  unfold sil
  by_cases e : i = k
  · subst e
    rw [if_pos (by simp), if_pos rfl]
    by_cases h : (i : Int) ∈ l
    · rw [if_pos h]
    · rw [if_neg h]
  · rw [if_neg e]
    by_cases h : (i : Int) ∈ l
    · rw [if_pos h, if_pos (by simp [h])]
    · rw [if_neg h, if_neg]
      simp only [List.mem_append, List.mem_singleton, not_or]
      exact ⟨h, by omega⟩
theorem PrOK.sil {n : Nat} {me now : Int} {f : Nat → Pr} (h : PrOK n me now f) (l : List Int) : PrOK n me now (sil f l) :=
  ⟨h.hn, h.hs, h.hnow, fun i hi => by
    have := h.hf i hi
    unfold Go.Proofs.Ytogianigkpldcaa.sil
    split <;> exact this⟩

theorem check_nil (now : Int) (w : World) : Calls Try.prog 11 #[.pointer none, .int .i64 now] w fun e w' => e = .returned (.tuple #[.slice none 0 0, .int .i64 1]) ∧ w = w' := by
  go_enter Try.func11, Try.ntmps11
  go_wp2_with fail
  exact bodyPost_ret (v := .tuple #[.slice none 0 0, .int .i64 1]) (by simp [results, Try.results11, go_sem]) rfl ⟨rfl, rfl⟩

theorem check_bad (p q n : Nat) (me now : Int) (f : Nat → Pr) (now' : Int) (w : World) (hW : WT w p q n me now f) (hb : ¬ (now ≤ now' ∧ now' ≤ 1099511627776)) :
    Calls Try.prog 11 #[.pointer (some ⟨p, 0, none⟩), .int .i64 now'] w fun e w' => e = .returned (.tuple #[.slice none 0 0, .int .i64 1]) ∧ w = w' := by
  have c1 : w.cell? ⟨p, 1, none⟩ = some (.int .i64 now) := cell_of_has hW.hp 1
  have h2 : (decide (now ≤ now') && decide (now' ≤ 1099511627776)) = false := by simp; omega
  clear hb hW
  go_enter Try.func11, Try.ntmps11
  go_wp2_with (go_at_call 25; refine (beat_moment now' now _).mono ?_; rw [h2]; rintro e w1 ⟨rfl, rfl⟩)
  exact bodyPost_ret (v := .tuple #[.slice none 0 0, .int .i64 1]) (by simp [results, Try.results11, go_sem]) rfl ⟨rfl, rfl⟩

/-- Who is newly silent. -/
def lates (n : Nat) (me now : Int) (f : Nat → Pr) : List Int := oth me (lateB now f) (n + 1)

set_option maxRecDepth 100000 in
set_option maxHeartbeats 2000000 in
theorem check_ok (p q n : Nat) (me now : Int) (f : Nat → Pr) (now' : Int) (w : World) (hW : WT w p q n me now f) (h1 : now ≤ now') (h2 : now' ≤ 1099511627776) :
    Calls Try.prog 11 #[.pointer (some ⟨p, 0, none⟩), .int .i64 now'] w fun e w' => ∃ v, e = .returned (.tuple #[v, .int .i64 0]) ∧
      w'.ownsRow w.heap.size 3 1 v (lates n me now' f).length (ints (lates n me now' f)) ∧ WT w' p q n me now' (sil f (lates n me now' f)) ∧ Chg [p, q] w w' := by
  have hmf : ∀ (fn : Fn) (first cap : Array Value) (w : World), (Instr.makeFunc fn first cap).run Try.prog w = .ok (.func fn first cap) w := fun _ _ _ _ => rfl
  have c1 : w.cell? ⟨p, 1, none⟩ = some (.int .i64 now) := cell_of_has hW.hp 1
  have f1 : w.frozen? ⟨p, 1, none⟩ = false := frozen_of_has hW.hp 1
  have hm : (decide (now ≤ now') && decide (now' ≤ 1099511627776)) = true := by simp; omega
  have HX := Lib.hid (hW.now now' h1 h2)
  have hlen : (lates n me now' f).length ≤ n + 1 := oth_len _ _ _
  have hn := hW.ok.hn
  obtain ⟨L, hL⟩ : ∃ L, lates n me now' f = L := ⟨_, rfl⟩
  have HM : Hid (∀ x, x ∈ L → ∃ i : Nat, x = i ∧ i ≤ n) := Lib.hid (by
    intro x hx
    rw [← hL] at hx
    obtain ⟨i, h1, h2, h3, h4⟩ := oth_mem.1 hx
    exact ⟨i, h1, by omega⟩)
  rw [hL] at hlen ⊢
  have HL := Lib.hid hL
  have HW := Lib.hid hW
  clear hW hL
  go_enter Try.func11, Try.ntmps11
  go_wp2_with (go_at_call 25; refine (beat_moment now' now _).mono ?_; rw [hm]; rintro e w1 ⟨rfl, rfl⟩)
  refine (others_late p q n me now' f _ HX.out).mono ?_
  rintro e w1 ⟨v, rfl, hown, hC⟩
  rw [show oth me (lateB now' f) (n + 1) = L from HL.out] at hown
  rw [show (w.setCell ⟨p, 1, none⟩ (.int .i64 now')).heap.size = w.heap.size by simp [World.setCell]] at hown
  have hX1 := HX.out.chg0 hC
  have hC1 : Chg [p, q] w w1 := ((Chg.refl [p, q] w).setCell (Or.inl (by simp)) _).trans (hC.mono (by simp))
  have HC1 := Lib.hid hC1; have HX1 := Lib.hid hX1; have HO := Lib.hid hown
  obtain ⟨a, cap, rfl⟩ := own_shape hown
  clear hX1 hC1 hC HX c1 f1 hown
  go_wp2_with fail
  go_loopw [32] (fun i wr => ∃ k : Nat, k ≤ L.length ∧ i = .int .i64 k ∧ WT wr p q n me now' (sil f (L.take k)) ∧ Chg [q] w1 wr) (fun i _ => L.length - (intOf i).toNat)
  case atStart => exact ⟨0, by omega, rfl, by rw [List.take_zero, sil_nil]; exact HX1.out, Chg.refl _ _⟩
  case round =>
    obtain ⟨k, hk, rfl, hWr, hCr⟩ := hrel
    by_cases hlt : k < L.length
    · have hqn : ∀ b, (Value.slice a L.length cap).ownBlock = some b → b ∉ [q] := by
        intro b hb
        have h3 := (HO.out.lt b hb).1
        have h4 := HW.out.hq.lt
        simp; omega
      obtain ⟨g, cap3, cur, hve, hRd, _, _, hgc, _⟩ := own_ints (own_chg HO.out hCr hqn) (by omega)
      injection hve with hv1 hv2 hv3
      subst hv1; subst hv3
      obtain ⟨gb, go, hge, _, hcc⟩ := hRd (by omega)
      have hx := hcc k hlt
      injection hge with hge
      injection hge with hge1 hge2
      subst hge1; subst hge2
      rw [Nat.zero_add] at hx
      have htk := take_snocI L k hlt
      obtain ⟨i, hi, hin⟩ := HM.out (L.getD k 0) (by simp [List.getD, hlt])
      rw [hi] at htk hx
      have hsn := sil_snoc f (L.take k) i
      rw [← htk] at hsn
      have c2 : wr.cell? ⟨p, 2, none⟩ = some (.slice (some ⟨q, 0, none⟩) (n + 1) (n + 1)) := cell_of_has hWr.hp 2
      have d2 := hWr.hq.c2 hin
      have z2 := hWr.hq.fz (i * 3 + 2)
      have HS := Lib.hid hsn; have HT := Lib.hid htk; have HWR := Lib.hid hWr; have HCR := Lib.hid hCr
      clear hsn htk hWr hCr hRd hcc hgc hi hqn
      go_wp2_with fail
      refine ⟨⟨k+1, by omega, by go_num, ?_, HCR.out.setCell (Or.inl (by simp)) _⟩, by simp [intOf]; omega⟩
      refine HWR.out.peers ((Chg.refl [q] _).setCell (Or.inl (by simp)) _) ?_ ?_
      · rw [HS.out]; exact HWR.out.hq.set2 i true
      · have := (HX1.out.ok).sil (L.take (k+1)); exact this
    · obtain rfl : L.length = k := by omega
      rw [List.take_length] at hWr
      have hqn : ∀ b, (Value.slice a L.length cap).ownBlock = some b → b ∉ [q] := by
        intro b hb
        have h3 := (HO.out.lt b hb).1
        have h4 := HW.out.hq.lt
        simp; omega
      have hO2 := own_chg HO.out hCr hqn
      have HWR := Lib.hid hWr; have HCR := Lib.hid hCr; have HO2 := Lib.hid hO2
      clear hWr hCr hO2 hqn
      go_wp2_with fail
      exact bodyPost_ret (v := .tuple #[.slice a L.length cap, .int .i64 0]) (by simp [results, Try.results11, go_sem]) rfl ⟨_, rfl, HO2.out, HWR.out, HC1.out.trans (HCR.out.mono (by simp))⟩

end Go.Proofs.Ytogianigkpldcaa
