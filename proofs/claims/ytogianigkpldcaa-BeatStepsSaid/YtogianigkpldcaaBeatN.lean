/- The document's watch: the walks of New, Heard, Check, Silent. -/
import Derived.Test.YtogianigkpldcaaBeatJ
import Derived.Test.YtogianigkpldcaaBeatE
namespace Go.Proofs.Ytogianigkpldcaa
set_option linter.unusedVariables false
set_option linter.unusedSimpArgs false
open Go.RowKit

/-- The document's watch as plain data. -/
structure RT (w : World) (p q n cap : Nat) (me now : Int) (f : Nat → Pr) : Prop where
  hp : w.heap[p]? = some (.cells #[.int .i64 n, .int .i64 me, .int .i64 now, .slice (some ⟨q, 0, none⟩) (n + 1) cap] 45 (0, 0))
  hq : Prs w q n 52 f
  ok : PrOK n me now f

theorem RT.chg {S : List Nat} {w w' : World} {p q n cap : Nat} {me now : Int} {f : Nat → Pr} (h : RT w p q n cap me now f) (hc : Chg S w w') (h1 : p ∉ S) (h2 : q ∉ S) : RT w' p q n cap me now f :=
  ⟨hc.has h.hp h1, h.hq.chg hc h2, h.ok⟩
theorem RT.chg0 {w w' : World} {p q n cap : Nat} {me now : Int} {f : Nat → Pr} (h : RT w p q n cap me now f) (hc : Chg [] w w') : RT w' p q n cap me now f :=
  h.chg hc (by simp) (by simp)
theorem RT.ne {w : World} {p q n cap : Nat} {me now : Int} {f : Nat → Pr} (h : RT w p q n cap me now f) : p ≠ q := by
  rintro rfl
  obtain ⟨cs, h1, _⟩ := h.hq
  rw [h.hp] at h1
  injection h1 with h1
  injection h1 with _ h2 _
  exact absurd h2 (by decide)
theorem RT.now {w : World} {p q n cap : Nat} {me now : Int} {f : Nat → Pr} (h : RT w p q n cap me now f) (now' : Int) (h1 : now ≤ now') (h2 : now' ≤ 1099511627776) : RT (w.setCell ⟨p, 2, none⟩ (.int .i64 now')) p q n cap me now' f :=
  ⟨has_set h.hp 2 _, h.hq.chg ((Chg.refl [p] w).setCell (Or.inl (by simp)) _) (by simp [h.ne.symm]), ⟨h.ok.hn, h.ok.hs, ⟨by have := h.ok.hnow; omega, h2⟩, fun i hi => by have := h.ok.hf i hi; omega⟩⟩
theorem RT.peers {w w' : World} {p q n cap : Nat} {me now : Int} {f g : Nat → Pr} (h : RT w p q n cap me now f) (hC : Chg [q] w w') (hq : Prs w' q n 52 g) (ok : PrOK n me now g) : RT w' p q n cap me now g :=
  ⟨hC.has h.hp (by simp [h.ne]), hq, ok⟩

theorem rheard_rt {w : World} {p q n cap : Nat} {me now now' : Int} {f : Nat → Pr} {k : Nat} (h : RT w p q n cap me now f) (hk : k ≤ n) (h1 : now ≤ now') (h2 : now' ≤ 1099511627776) (hs : (f k).silent = false) :
    RT (((w.setCell ⟨p, 2, none⟩ (.int .i64 now')).setCell ⟨q, k * 3, none⟩ (.int .i64 now')).setCell ⟨q, k * 3 + 2, none⟩ (.bool false)) p q n cap me now' (heardF f k now') := by
  have h0 := h.now now' h1 h2
  refine h0.peers (((Chg.refl [q] _).setCell (Or.inl (by simp)) _).setCell (Or.inl (by simp)) _) (((h0.hq.set0 k now').set2 k false).same fun i hi => ?_) (h.ok.heard k hk h1 h2)
  unfold heardF
  by_cases e : i = k
  · subst e; simp [hs]
  · simp [e]
theorem rheard_rt_lo {w : World} {p q n cap : Nat} {me now now' : Int} {f : Nat → Pr} {k : Nat} (h : RT w p q n cap me now f) (hk : k ≤ n) (h1 : now ≤ now') (h2 : now' ≤ 1099511627776) (hs : (f k).silent = true) (hl : 2 * (f k).timeout ≤ 64) :
    RT ((((w.setCell ⟨p, 2, none⟩ (.int .i64 now')).setCell ⟨q, k * 3, none⟩ (.int .i64 now')).setCell ⟨q, k * 3 + 2, none⟩ (.bool false)).setCell ⟨q, k * 3 + 1, none⟩ (.int .i64 (2 * (f k).timeout))) p q n cap me now' (heardF f k now') := by
  have h0 := h.now now' h1 h2
  refine h0.peers ((((Chg.refl [q] _).setCell (Or.inl (by simp)) _).setCell (Or.inl (by simp)) _).setCell (Or.inl (by simp)) _) ((((h0.hq.set0 k now').set2 k false).set1 k _).same fun i hi => ?_) (h.ok.heard k hk h1 h2)
  unfold heardF
  by_cases e : i = k
  · subst e
    rw [show min 64 (2 * (f i).timeout) = 2 * (f i).timeout by omega]
    simp [hs]
  · simp [e]
theorem rheard_rt_hi {w : World} {p q n cap : Nat} {me now now' : Int} {f : Nat → Pr} {k : Nat} (h : RT w p q n cap me now f) (hk : k ≤ n) (h1 : now ≤ now') (h2 : now' ≤ 1099511627776) (hs : (f k).silent = true) (hl : 64 < 2 * (f k).timeout) :
    RT (((((w.setCell ⟨p, 2, none⟩ (.int .i64 now')).setCell ⟨q, k * 3, none⟩ (.int .i64 now')).setCell ⟨q, k * 3 + 2, none⟩ (.bool false)).setCell ⟨q, k * 3 + 1, none⟩ (.int .i64 (2 * (f k).timeout))).setCell ⟨q, k * 3 + 1, none⟩ (.int .i64 64)) p q n cap me now' (heardF f k now') := by
  have h0 := h.now now' h1 h2
  refine h0.peers (((((Chg.refl [q] _).setCell (Or.inl (by simp)) _).setCell (Or.inl (by simp)) _).setCell (Or.inl (by simp)) _).setCell (Or.inl (by simp)) _) (((((h0.hq.set0 k now').set2 k false).set1 k _).set1 k _).same fun i hi => ?_) (h.ok.heard k hk h1 h2)
  unfold heardF
  by_cases e : i = k
  · subst e
    rw [show min 64 (2 * (f i).timeout) = 64 by omega]
    simp [hs]
  · simp [e]

theorem rheard_bad (p q n cap : Nat) (me now : Int) (f : Nat → Pr) (x now' : Int) (w : World) (hW : RT w p q n cap me now f) (hb : ¬ (1 ≤ x ∧ x ≤ n ∧ now ≤ now' ∧ now' ≤ 1099511627776)) :
    Calls Try.prog 16 #[.pointer (some ⟨p, 0, none⟩), .int .i64 x, .int .i64 now'] w fun e w' => e = .returned (.tuple #[.bool false, .int .i64 1]) ∧ w = w' := by
  have c0 : w.cell? ⟨p, 0, none⟩ = some (.int .i64 n) := cell_of_has hW.hp 0
  have c2 : w.cell? ⟨p, 2, none⟩ = some (.int .i64 now) := cell_of_has hW.hp 2
  have hb' : x < 1 ∨ (1 ≤ x ∧ n < x) ∨ (1 ≤ x ∧ x ≤ n ∧ now' < now) ∨ (1 ≤ x ∧ x ≤ n ∧ now ≤ now' ∧ 1099511627776 < now') := by omega
  clear hW hb
  rcases hb' with h1 | ⟨h1, h2⟩ | ⟨h1, h2, h3⟩ | ⟨h1, h2, h3, h4⟩
  all_goals
    go_enter Try.func16, Try.ntmps16
    go_wp2_with fail
    exact bodyPost_ret (v := .tuple #[.bool false, .int .i64 1]) (by simp [results, Try.results16, go_sem]) rfl ⟨rfl, rfl⟩

set_option maxHeartbeats 2000000 in
theorem rheard_ok (p q n cap : Nat) (me now : Int) (f : Nat → Pr) (k : Nat) (now' : Int) (w : World) (hW : RT w p q n cap me now f) (hk1 : 1 ≤ k) (hk : k ≤ n) (h1 : now ≤ now') (h2 : now' ≤ 1099511627776) :
    Calls Try.prog 16 #[.pointer (some ⟨p, 0, none⟩), .int .i64 k, .int .i64 now'] w fun e w' =>
      e = .returned (.tuple #[.bool (f k).silent, .int .i64 0]) ∧ RT w' p q n cap me now' (heardF f k now') ∧ Chg [p, q] w w' := by
  have c0 : w.cell? ⟨p, 0, none⟩ = some (.int .i64 n) := cell_of_has hW.hp 0
  have c2 : w.cell? ⟨p, 2, none⟩ = some (.int .i64 now) := cell_of_has hW.hp 2
  have c3 : w.cell? ⟨p, 3, none⟩ = some (.slice (some ⟨q, 0, none⟩) (n + 1) cap) := cell_of_has hW.hp 3
  have f2 : w.frozen? ⟨p, 2, none⟩ = false := frozen_of_has hW.hp 2
  have d0 := hW.hq.c0 hk
  have d1 := hW.hq.c1 hk
  have d2 := hW.hq.c2 hk
  have z0 := hW.hq.fz (k * 3)
  have z1 := hW.hq.fz (k * 3 + 1)
  have z2 := hW.hq.fz (k * 3 + 2)
  have hpq := hW.ne
  have hqp := hpq.symm
  have hn := hW.ok.hn
  have hto := hW.ok.hf k hk
  cases hs : (f k).silent
  · have HX := Lib.hid (rheard_rt hW hk h1 h2 hs)
    rw [hs] at d2
    clear hW hs hto
    go_enter Try.func16, Try.ntmps16
    go_wp2_with fail
    refine bodyPost_ret (v := .tuple #[.bool false, .int .i64 0]) (by simp [results, Try.results16, go_sem]) rfl ⟨rfl, HX.out, ?_⟩
    exact (((Chg.refl _ _).setCell (Or.inl (by simp)) _).setCell (Or.inl (by simp)) _).setCell (Or.inl (by simp)) _
  · by_cases hl : 2 * (f k).timeout ≤ 64
    · have HX := Lib.hid (rheard_rt_lo hW hk h1 h2 hs hl)
      rw [hs] at d2
      clear hW hs
      generalize (f k).timeout = t at *
      generalize (f k).heard = he at *
      go_enter Try.func16, Try.ntmps16
      go_wp2_with fail
      go_region
      go_wp2_with fail
      refine bodyPost_ret (v := .tuple #[.bool true, .int .i64 0]) (by simp [results, Try.results16, go_sem]) rfl ⟨rfl, ?_, ?_⟩
      · exact HX.out.chg0 ((Chg.refl _ _).drew)
      · repeat (with_reducible first | exact Chg.refl _ _ | refine Chg.setCell ?_ (Or.inl (by simp)) _ | apply Chg.drew | apply Chg.drewN | apply Chg.alloc)
    · have HX := Lib.hid (rheard_rt_hi hW hk h1 h2 hs (by omega))
      rw [hs] at d2
      clear hW hs
      generalize (f k).timeout = t at *
      generalize (f k).heard = he at *
      go_enter Try.func16, Try.ntmps16
      go_wp2_with fail
      go_region
      go_wp2_with fail
      refine bodyPost_ret (v := .tuple #[.bool true, .int .i64 0]) (by simp [results, Try.results16, go_sem]) rfl ⟨rfl, ?_, ?_⟩
      · exact HX.out.chg0 ((Chg.refl _ _).drew)
      · repeat (with_reducible first | exact Chg.refl _ _ | refine Chg.setCell ?_ (Or.inl (by simp)) _ | apply Chg.drew | apply Chg.drewN | apply Chg.alloc)

theorem rcheck_bad (p q n cap : Nat) (me now : Int) (f : Nat → Pr) (now' : Int) (w : World) (hW : RT w p q n cap me now f) (hb : ¬ (now ≤ now' ∧ now' ≤ 1099511627776)) :
    Calls Try.prog 17 #[.pointer (some ⟨p, 0, none⟩), .int .i64 now'] w fun e w' => e = .returned (.tuple #[.slice none 0 0, .int .i64 1]) ∧ w = w' := by
  have c2 : w.cell? ⟨p, 2, none⟩ = some (.int .i64 now) := cell_of_has hW.hp 2
  have hb' : now' < now ∨ (now ≤ now' ∧ 1099511627776 < now') := by omega
  clear hb hW
  rcases hb' with h1 | ⟨h1, h2⟩
  all_goals
    go_enter Try.func17, Try.ntmps17
    go_wp2_with fail
    exact bodyPost_ret (v := .tuple #[.slice none 0 0, .int .i64 1]) (by simp [results, Try.results17, go_sem]) rfl ⟨rfl, rfl⟩

theorem oth_one (me : Int) (g : Nat → Bool) : oth me g 1 = [] := by rw [oth_succ, if_neg (by omega), oth_zero]; rfl

theorem sil_same {f : Nat → Pr} {me : Int} {g : Nat → Bool} (k : Nat) : sil f (oth me g k) k = f k := by
  unfold sil
  rw [if_neg]
  rw [oth_mem]
  rintro ⟨i, hi, _, hlt, _⟩
  omega

set_option maxRecDepth 100000 in
set_option maxHeartbeats 4000000 in
theorem rcheck_ok (p q n cap : Nat) (me now : Int) (f : Nat → Pr) (now' : Int) (w : World) (hW : RT w p q n cap me now f) (h1 : now ≤ now') (h2 : now' ≤ 1099511627776) :
    Calls Try.prog 17 #[.pointer (some ⟨p, 0, none⟩), .int .i64 now'] w fun e w' => ∃ v, e = .returned (.tuple #[v, .int .i64 0]) ∧
      w'.ownsRow w.heap.size 3 1 v (lates n me now' f).length (ints (lates n me now' f)) ∧ RT w' p q n cap me now' (sil f (lates n me now' f)) ∧ Chg [p, q] w w' := by
  have c2 : w.cell? ⟨p, 2, none⟩ = some (.int .i64 now) := cell_of_has hW.hp 2
  have f2 : w.frozen? ⟨p, 2, none⟩ = false := frozen_of_has hW.hp 2
  have hn := hW.ok.hn
  have hpl := lt_of_has hW.hp
  have hql := hW.hq.lt
  have hpq := hW.ne
  have HX := Lib.hid (hW.now now' h1 h2)
  have HOK := Lib.hid hW.ok
  obtain ⟨W0, hW0⟩ : ∃ W0, w.setCell ⟨p, 2, none⟩ (.int .i64 now') = W0 := ⟨_, rfl⟩
  have HC0 : Hid (Chg [p, q] w W0) := Lib.hid (by rw [← hW0]; exact (Chg.refl [p, q] w).setCell (Or.inl (by simp)) _)
  have hs0 : W0.heap.size = w.heap.size := by rw [← hW0]; simp [World.setCell]
  rw [hW0] at HX
  clear hW
  go_enter Try.func17, Try.ntmps17
  go_wp2_with fail
  clear hW0 c2 f2
  go_loopw [6, 7] (fun v i wr => ∃ k : Nat, 1 ≤ k ∧ k ≤ n + 1 ∧ i = .int .i64 k ∧ wr.ownsRow w.heap.size 3 1 v (oth me (lateB now' f) k).length (ints (oth me (lateB now' f) k)) ∧ RT wr p q n cap me now' (sil f (oth me (lateB now' f) k)) ∧ Chg [p, q] w wr) (fun _ i _ => n + 2 - (intOf i).toNat)
  case atStart => exact ⟨1, by omega, by omega, rfl, by rw [oth_one]; exact World.ownsRow_nil _ _ _ _, by rw [oth_one, sil_nil]; exact HX.out, HC0.out⟩
  case round =>
    obtain ⟨k, hk1, hk, rfl, hown, hWr, hC⟩ := hrel
    obtain ⟨a0, c9, rfl⟩ := own_shape hown
    have c0 : wr.cell? ⟨p, 0, none⟩ = some (.int .i64 n) := cell_of_has hWr.hp 0
    have c1 : wr.cell? ⟨p, 1, none⟩ = some (.int .i64 me) := cell_of_has hWr.hp 1
    have c3 : wr.cell? ⟨p, 3, none⟩ = some (.slice (some ⟨q, 0, none⟩) (n + 1) cap) := cell_of_has hWr.hp 3
    have hsz := hC.size
    by_cases hlt : k ≤ n
    · have d0 := hWr.hq.c0 hlt
      have d1 := hWr.hq.c1 hlt
      have d2 := hWr.hq.c2 hlt
      have z2 := hWr.hq.fz (k * 3 + 2)
      rw [sil_same] at d0 d1 d2
      have hol := oth_len me (lateB now' f) k
      have hok := HOK.out.hf k hlt
      have HWR := Lib.hid hWr; have HC := Lib.hid hC
      have hyes := fun h3 h4 => oth_yes (me := me) (g := lateB now' f) (m := k) h3 h4
      have hno := oth_no (me := me) (g := lateB now' f) (m := k)
      have hsn := sil_snoc f (oth me (lateB now' f) k) k
      have hlb : lateB now' f k = (!(f k).silent && decide ((f k).timeout < now' - (f k).heard)) := rfl
      obtain ⟨he, hhe⟩ : ∃ he, (f k).heard = he := ⟨_, rfl⟩
      obtain ⟨ti, hti⟩ : ∃ ti, (f k).timeout = ti := ⟨_, rfl⟩
      obtain ⟨si, hsi⟩ : ∃ si, (f k).silent = si := ⟨_, rfl⟩
      rw [hhe, hti, hsi] at hlb
      rw [hhe] at d0 hok
      rw [hti] at d1 hok
      rw [hsi] at d2
      have HLB := Lib.hid hlb; have HYES := Lib.hid hyes; have HNO := Lib.hid hno; have HSN := Lib.hid hsn
      clear hWr hC hhe hti hsi hlb hyes hno hsn
      by_cases hm : (k : Int) = me
      · have t1 : ((k : Int) != me) = false := by simp [hm]
        have HO := Lib.hid (HNO.out (fun h => h.2.1 hm))
        clear hm
        go_wp2_with fail
        go_quiet (fail)
        go_wp2_with fail
        refine ⟨⟨k+1, by omega, by omega, by go_num, ?_, ?_, HC.out.drewN _⟩, by simp [intOf]; omega⟩
        · rw [HO.out]; exact hown
        · rw [HO.out]; exact HWR.out.chg0 ((Chg.refl _ _).drewN _)
      · have t1 : ((k : Int) != me) = true := by simp [hm]
        cases si
        · by_cases hlate : ti < now' - he
          · have HO := Lib.hid (HYES.out hk1 hm (by rw [HLB.out]; simp [hlate]))
            clear hm
            go_wp2_with fail
            go_quiet (fail)
            go_wp2_with (at_builtin; go_loud (refine wpList_push rfl (.tmp 75) (.tmp 77) 30 rfl elem_intS w.heap.size rfl (((own_chg hown ((Chg.refl [q] _).setCell (Or.inl (by simp)) _) (fun b hb => by have := (hown.lt b hb).1; simp; omega)).alloc _)) wr.heap.size #[.int .i64 k] rfl rfl (has_alloc_at (by first | rfl | (simp [World.setCell]; done))) (by simp [Value.oneCell']) (by omega) (by omega) (by simp [World.setCell]; omega) ?_); intro v3 w6 hown6 hgrow6 hat6)
            have hvb : ∀ b, (Value.slice a0 (oth me (lateB now' f) k).length c9).ownBlock = some b → b ≠ p ∧ b ≠ q ∧ w.heap.size ≤ b := fun b hb => by have := (hown.lt b hb).1; omega
            have hC6 := ((Chg.refl (Value.slice a0 (oth me (lateB now' f) k).length c9).ownBlock.toList _).alloc _).grown hgrow6 (fun k hk => Or.inl (Option.mem_toList.2 hk))
            refine ⟨⟨k+1, by omega, by omega, by go_num, ?_, ?_, ?_⟩, by simp [intOf]; omega⟩
            · rw [HO.out]; simpa [ints] using hown6
            · refine RT.chg ?_ hC6 (fun h => (hvb p (Option.mem_toList.1 h)).1 rfl) (fun h => (hvb q (Option.mem_toList.1 h)).2.1 rfl)
              refine (HWR.out.chg0 ((Chg.refl _ _).drewN _)).peers ((Chg.refl [q] _).setCell (Or.inl (by simp)) _) ?_ ((HX.out.ok).sil _)
              rw [HO.out, HSN.out]
              exact (HWR.out.hq.chg ((Chg.refl [] _).drewN _) (by simp)).set2 k true
            · exact (((HC.out.drewN _).setCell (Or.inl (by simp)) _).trans_new hC6 (fun x hx => Or.inr (by have := (hvb x (Option.mem_toList.1 hx)).2.2; omega)))
          · have HO := Lib.hid (HNO.out (fun h => by have := h.2.2; rw [HLB.out] at this; simp [hlate] at this))
            clear hm
            go_wp2_with fail
            go_quiet (fail)
            go_wp2_with fail
            refine ⟨⟨k+1, by omega, by omega, by go_num, ?_, ?_, HC.out.drewN _⟩, by simp [intOf]; omega⟩
            · rw [HO.out]; exact hown
            · rw [HO.out]; exact HWR.out.chg0 ((Chg.refl _ _).drewN _)
        · have HO := Lib.hid (HNO.out (fun h => by have := h.2.2; rw [HLB.out] at this; simp at this))
          clear hm
          go_wp2_with fail
          go_quiet (fail)
          go_wp2_with fail
          refine ⟨⟨k+1, by omega, by omega, by go_num, ?_, ?_, HC.out.drewN _⟩, by simp [intOf]; omega⟩
          · rw [HO.out]; exact hown
          · rw [HO.out]; exact HWR.out.chg0 ((Chg.refl _ _).drewN _)
    · obtain rfl : n + 1 = k := by omega
      have HWR := Lib.hid hWr; have HC := Lib.hid hC; have HO := Lib.hid hown
      clear hWr hC hown
      go_wp2_with fail
      exact bodyPost_ret (v := .tuple #[.slice a0 (oth me (lateB now' f) (n + 1)).length c9, .int .i64 0]) (by simp [results, Try.results17, go_sem]) rfl ⟨_, rfl, HO.out, HWR.out, HC.out⟩

set_option maxRecDepth 100000 in
set_option maxHeartbeats 2000000 in
theorem rsilent (p q n cap : Nat) (me now : Int) (f : Nat → Pr) (w : World) (hW : RT w p q n cap me now f) (hs : ∀ i : Nat, (i : Int) = me → (f i).silent = false) :
    Calls Try.prog 19 #[.pointer (some ⟨p, 0, none⟩)] w fun e w' =>
      ∃ v, e = .returned v ∧ w'.ownsRow w.heap.size 3 1 v (oth me (quietB f) (n + 1)).length (ints (oth me (quietB f) (n + 1))) ∧ Chg [] w w' := by
  have hn := hW.ok.hn
  have HW := Lib.hid hW
  have HS := Lib.hid hs
  clear hW hs
  go_enter Try.func19, Try.ntmps19
  go_wp2_with fail
  go_loopw [3, 4] (fun v i wr => ∃ k : Nat, 1 ≤ k ∧ k ≤ n + 1 ∧ i = .int .i64 k ∧ wr.ownsRow w.heap.size 3 1 v (oth me (quietB f) k).length (ints (oth me (quietB f) k)) ∧ Chg [] w wr) (fun _ i _ => n + 2 - (intOf i).toNat)
  case atStart => exact ⟨1, by omega, by omega, rfl, by rw [oth_one]; exact World.ownsRow_nil _ _ _ _, Chg.refl _ _⟩
  case round =>
    obtain ⟨k, hk1, hk, rfl, hown, hC⟩ := hrel
    have hWr := HW.out.chg0 hC
    have c0 : wr.cell? ⟨p, 0, none⟩ = some (.int .i64 n) := cell_of_has hWr.hp 0
    have c3 : wr.cell? ⟨p, 3, none⟩ = some (.slice (some ⟨q, 0, none⟩) (n + 1) cap) := cell_of_has hWr.hp 3
    have hsz := hC.size
    have HC := Lib.hid hC
    clear hC
    by_cases hlt : k ≤ n
    · have d2 := hWr.hq.c2 hlt
      have hol := oth_len me (quietB f) k
      have HQ : Hid (quietB f k = (f k).silent) := Lib.hid rfl
      have HSK := Lib.hid (HS.out k)
      obtain ⟨si, hsi⟩ : ∃ si, (f k).silent = si := ⟨_, rfl⟩
      rw [hsi] at d2 HQ HSK
      clear hWr hsi
      cases si
      · have HO := Lib.hid (oth_no (me := me) (g := quietB f) (m := k) (fun h => by rw [HQ.out] at h; exact absurd h.2.2 (by decide)))
        go_wp2_with fail
        refine ⟨⟨k+1, by omega, by omega, by go_num, ?_, HC.out⟩, by simp [intOf]; omega⟩
        rw [HO.out]; exact hown
      · have HO := Lib.hid (oth_yes (me := me) (g := quietB f) (m := k) hk1 (fun h => absurd (HSK.out h) (by decide)) HQ.out)
        go_wp2_with (at_builtin; go_loud (refine wpList_push rfl (.tmp 21) (.tmp 23) 30 rfl elem_intS w.heap.size rfl (hown.alloc _) wr.heap.size #[.int .i64 k] rfl rfl (has_alloc_at (by first | rfl | (simp; done))) (by simp [Value.oneCell']) (by omega) (by omega) (by simp; omega) ?_); intro v3 w6 hown6 hgrow6 hat6)
        refine ⟨⟨k+1, by omega, by omega, by go_num, ?_, ?_⟩, by simp [intOf]; omega⟩
        · rw [HO.out]; simpa [ints] using hown6
        · refine (HC.out.alloc _).grown hgrow6 ?_
          intro b3 hb3
          exact Or.inr (hown.lt b3 hb3).1
    · obtain rfl : n + 1 = k := by omega
      clear hWr
      go_wp2_with fail
      go_ret
      exact ⟨_, rfl, hown, HC.out⟩

end Go.Proofs.Ytogianigkpldcaa
