/- The walks of package queue: Finish. -/
import Derived.Test.YtgiackgdceanhaaQueueG
namespace Go.Proofs.Ytgiackgdceanhaa
set_option linter.unusedVariables false
set_option linter.unusedSimpArgs false
open Go.RowKit

theorem readsI_waits {w : World} {base q r : Nat} {a : Option Addr} {n cap : Nat} {l : List Ent} (h : QN w base q r (.slice a n cap) l) : ReadsI w a (waits l) ∧ (waits l).length = n := by
  rcases h.hv.2 with ⟨h1, h2⟩ | ⟨g, cap', cur, h1, _⟩
  · injection h1 with h3 h4 h5
    refine ⟨fun hn => by omega, by omega⟩
  · injection h1 with h3 h4 h5
    refine ⟨?_, h4.symm⟩
    by_cases hn : 0 < (waits l).length
    · obtain ⟨g2, cap2, cur2, e, hr, _⟩ := own_ints h.hv hn
      injection e with e1 _ _
      rw [e1]; exact hr
    · intro hn'; exact absurd hn' hn

set_option maxRecDepth 100000 in
theorem finish_no (base q r : Nat) (v : Value) (l : List Ent) (id : Int) (s : Sg) (w : World) (hQ : QN w base q r v l) (hno : id ∉ waits l) :
    Calls Try.prog 16 #[.pointer (some ⟨q, 0, none⟩), .int .i64 id, .agg #[.int .u64 s.x0, .int .u64 s.x1, .int .u64 s.x2, .int .u64 s.x3, .int .u64 s.y0, .int .u64 s.y1, .int .u64 s.y2, .int .u64 s.y3, .bool s.inf, .int .u64 s.z0, .int .u64 s.z1, .int .u64 s.z2, .int .u64 s.z3]] w fun e w' => e = .returned (.int .i64 6) ∧ Chg [] w w' := by
  obtain ⟨a, cap, rfl⟩ := own_shape hQ.hv
  have h8 := hQ.h8
  obtain ⟨hR, _⟩ := readsI_waits hQ
  have c1 : w.cell? ⟨q, 1, none⟩ = some (.slice a (waits l).length cap) := cell_of_has hQ.hq 1
  have hqb := lt_of_has hQ.hq
  have hd : decide (0 ≤ idxOf (waits l) id) = false := by
    rw [decide_eq_false_iff_not, idxOf_mem]; exact hno
  have HD := Lib.hid hd; have HR := Lib.hid hR
  clear hd hR hno hQ
  go_enter Try.func16, Try.ntmps16
  go_wp2_with fail
  refine (sl_contains a (waits l).length cap (waits l) id _ rfl (by omega) (HR.out.chg ((Chg.refl [] w).alloc _) (by simp))).mono ?_
  rw [HD.out]
  rintro e w1 ⟨rfl, rfl⟩
  go_wp2_with fail
  go_ret
  exact ⟨rfl, (Chg.refl _ _).alloc _⟩

/-- The list once one is done. -/
def finL (l : List Ent) (id : Int) (s : Sg) : List Ent := l.map fun e => if e.id = id then { e with done := true, s := s } else e

theorem finL_ids (l : List Ent) (id : Int) (s : Sg) : (finL l id s).map Ent.id = l.map Ent.id := by
  unfold finL; rw [List.map_map]; apply List.map_congr_left; intro e _; simp only [Function.comp]; split <;> rfl
theorem finL_bs (l : List Ent) (id : Int) (s : Sg) : (finL l id s).map Ent.b = l.map Ent.b := by
  unfold finL; rw [List.map_map]; apply List.map_congr_left; intro e _; simp only [Function.comp]; split <;> rfl
theorem finL_keys (l : List Ent) (id : Int) (s : Sg) : keys (finL l id s) = keys l := by
  unfold finL keys; rw [List.map_map]; apply List.map_congr_left; intro e _; simp only [Function.comp]; split <;> rfl
theorem waits_cons (e : Ent) (l : List Ent) : waits (e :: l) = if e.done = true then waits l else e.id :: waits l := by
  unfold waits; rw [List.filter_cons]; cases e.done <;> simp
theorem waits_sub {l : List Ent} {id : Int} (h : id ∈ waits l) : id ∈ l.map Ent.id := by
  unfold waits at h
  rw [List.mem_map] at h ⊢
  obtain ⟨e, he, hi⟩ := h
  exact ⟨e, (List.mem_filter.1 he).1, hi⟩
theorem finL_waits_filter (id : Int) (s : Sg) : ∀ (l : List Ent), waits (finL l id s) = (waits l).filter (· ≠ id)
  | [] => rfl
  | e :: l => by
    have ih := finL_waits_filter id s l
    show waits ((if e.id = id then { e with done := true, s := s } else e) :: finL l id s) = _
    rw [waits_cons, waits_cons, ih]
    by_cases h : e.id = id
    · cases hd : e.done <;> simp [h]
    · cases hd : e.done <;> simp [h, hd]
theorem waits_nodup {l : List Ent} (hn : (l.map Ent.id).Nodup) : (waits l).Nodup := by
  unfold waits
  exact hn.sublist (List.Sublist.map _ List.filter_sublist)
theorem filter_drop {x : Int} : ∀ {zs : List Int} {i : Nat}, zs.Nodup → zs[i]? = some x → zs.filter (· ≠ x) = zs.take i ++ zs.drop (i + 1)
  | [], i, _, h => by simp at h
  | z :: zs, 0, hn, h => by
    simp at h; subst h
    simp only [List.nodup_cons] at hn
    simp
    intro a ha hax; subst hax; exact hn.1 ha
  | z :: zs, i + 1, hn, h => by
    simp only [List.nodup_cons] at hn
    simp only [List.getElem?_cons_succ] at h
    have hz : z ≠ x := by rintro rfl; exact hn.1 (List.mem_of_getElem? h)
    have := filter_drop hn.2 h
    simp only [List.take_succ_cons, List.drop_succ_cons, List.cons_append, List.filter_cons]
    rw [if_pos (by simpa using hz), this]
theorem idxOf_get {zs : List Int} {x : Int} (h : x ∈ zs) : ∃ i : Nat, idxOf zs x = i ∧ i < zs.length ∧ zs[i]? = some x := by
  have h0 := (idxOf_mem zs x).2 h
  unfold idxOf at h0 ⊢
  cases hf : zs.findIdx? (· == x) with
  | none => rw [hf] at h0; simp at h0
  | some i =>
    obtain ⟨hi, h1, _⟩ := List.findIdx?_eq_some_iff_getElem.1 hf
    refine ⟨i, rfl, hi, ?_⟩
    simp at h1
    rw [List.getElem?_eq_getElem hi, h1]

theorem nodup_inj {f : Ent → Nat} {l : List Ent} (hn : (l.map f).Nodup) {a b : Ent} (ha : a ∈ l) (hb : b ∈ l) (h : f a = f b) : a = b := by
  induction l with
  | nil => cases ha
  | cons x l ih =>
    simp only [List.map_cons, List.nodup_cons] at hn
    rcases List.mem_cons.1 ha with ha | ha <;> rcases List.mem_cons.1 hb with hb | hb
    · rw [ha, hb]
    · exact absurd (List.mem_map.2 ⟨b, hb, by rw [← h, ha]⟩) hn.1
    · exact absurd (List.mem_map.2 ⟨a, ha, by rw [h, hb]⟩) hn.1
    · exact ih hn.2 ha hb

theorem finish_end {base q r : Nat} {v : Value} {l : List Ent} {e0 : Ent} {s : Sg} {w w3 wf : World} {k g cap2 i : Nat} {cur3 : Array Value} (hQ : QN w base q r v l) (he : e0 ∈ l)
    (hfd : (waits l).filter (· ≠ e0.id) = (waits l).take i ++ (waits l).drop (i + 1)) (hi : i < k + 1) (hk : (waits l).length = k + 1)
    (hc3 : Chg [] w w3) (hg : w.heap.size ≤ g) (hg3 : w3.heap[g]? = some (.cells cur3 3 (0, 0))) (hs3 : cur3.size = cap2) (ht3 : cur3.toList.take k = ints ((waits l).take i ++ (waits l).drop (i + 1)))
    (hkc : k ≤ cap2) (hcm : cap2 ≤ 9223372036854775807) (hc0 : Chg [q, e0.b] w3 wf)
    (hq : wf.heap[q]? = some (.cells #[.map (some r), .slice (some ⟨g, 0, none⟩) k cap2] 89 (0, 0)))
    (hb : wf.heap[e0.b]? = some (.cells #[.string e0.m, .bool true, .int .u64 s.x0, .int .u64 s.x1, .int .u64 s.x2, .int .u64 s.x3, .int .u64 s.y0, .int .u64 s.y1, .int .u64 s.y2, .int .u64 s.y3, .bool s.inf, .int .u64 s.z0, .int .u64 s.z1, .int .u64 s.z2, .int .u64 s.z3] 93 (0, 0))) :
    QN wf.drew base q r (.slice (some ⟨g, 0, none⟩) k cap2) (finL l e0.id s) ∧ Chg [q, e0.b] w wf.drew := by
  have hc := hc0.drew
  replace hq : wf.drew.heap[q]? = some (.cells #[.map (some r), .slice (some ⟨g, 0, none⟩) k cap2] 89 (0, 0)) := hq
  replace hb : wf.drew.heap[e0.b]? = some (.cells #[.string e0.m, .bool true, .int .u64 s.x0, .int .u64 s.x1, .int .u64 s.x2, .int .u64 s.x3, .int .u64 s.y0, .int .u64 s.y1, .int .u64 s.y2, .int .u64 s.y3, .bool s.inf, .int .u64 s.z0, .int .u64 s.z1, .int .u64 s.z2, .int .u64 s.z3] 93 (0, 0)) := hb
  generalize wf.drew = wf at *
  have hqb := lt_of_has hQ.hq
  have hebb := lt_of_has (hQ.hk e0 he)
  have hC : Chg [q, e0.b] w wf := (hc3.mono (by simp)).trans hc
  have hre : r ≠ e0.b := hQ.hm.ne (hQ.hk e0 he)
  have hrq : r ≠ q := hQ.hm.ne hQ.hq
  have hw : waits (finL l e0.id s) = (waits l).take i ++ (waits l).drop (i + 1) := by rw [finL_waits_filter, hfd]
  have hwl : (waits (finL l e0.id s)).length = k := by rw [hw]; simp; omega
  refine ⟨⟨hq, ?_, ?_, ?_, ?_, ?_, ?_, ?_⟩, hC⟩
  · rw [finL_keys]; exact hQ.hm.chg hC (by simp; exact ⟨hrq, hre⟩)
  · intro e hee
    unfold finL at hee
    rw [List.mem_map] at hee
    obtain ⟨e1, h1, rfl⟩ := hee
    by_cases hid : e1.id = e0.id
    · have : e1 = e0 := by
        have h2 := look_keys hQ.hn h1
        have h3 := look_keys hQ.hn he
        rw [hid, h3] at h2
        injection h2 with h2; injection h2 with h2; injection h2 with h2; injection h2 with h2
        exact nodup_inj hQ.hb h1 he h2.symm
      subst this
      simp only [if_true]
      exact hb
    · rw [if_neg hid]
      refine hC.has (hQ.hk e1 h1) ?_
      simp only [List.mem_cons, List.not_mem_nil, or_false, not_or]
      refine ⟨?_, fun h => hid ?_⟩
      · intro heq
        have hx := hQ.hk e1 h1
        rw [heq, hQ.hq] at hx
        injection hx with hx
        injection hx with _ h2
        exact absurd h2 (by decide)
      · rw [nodup_inj hQ.hb h1 he h]
  · rw [finL_ids]; exact hQ.hn
  · rw [finL_bs]; exact hQ.hb
  · rw [hwl, hw]
    refine ⟨by have := hwl; rw [hw] at this; simp only [ints, List.length_map]; omega, Or.inr ⟨g, cap2, cur3, rfl, ?_, ?_, hkc, hcm, by simpa using hs3, by simpa using ht3⟩⟩
    · have := hQ.hbase.1; omega
    · refine hc.has hg3 ?_
      simp; omega
  · rw [hwl]; have := hQ.h8; omega
  · refine ⟨hQ.hbase.1, hQ.hbase.2.1, ?_⟩
    intro e hee
    unfold finL at hee
    rw [List.mem_map] at hee
    obtain ⟨e1, h1, rfl⟩ := hee
    have := hQ.hbase.2.2 e1 h1
    split <;> exact this

set_option maxRecDepth 100000 in
set_option maxHeartbeats 2000000 in
theorem finish_yes (base q r : Nat) (v : Value) (l : List Ent) (e0 : Ent) (s : Sg) (w : World) (hQ : QN w base q r v l) (he : e0 ∈ l) (hd : e0.done = false) :
    Calls Try.prog 16 #[.pointer (some ⟨q, 0, none⟩), .int .i64 e0.id, .agg #[.int .u64 s.x0, .int .u64 s.x1, .int .u64 s.x2, .int .u64 s.x3, .int .u64 s.y0, .int .u64 s.y1, .int .u64 s.y2, .int .u64 s.y3, .bool s.inf, .int .u64 s.z0, .int .u64 s.z1, .int .u64 s.z2, .int .u64 s.z3]] w fun e w' => e = .returned (.int .i64 0) ∧
      ∃ v' g, v'.ownBlock = some g ∧ w.heap.size ≤ g ∧ QN w' base q r v' (finL l e0.id s) ∧ Chg [q, e0.b] w w' := by
  obtain ⟨a, cap, rfl⟩ := own_shape hQ.hv
  have h8 := hQ.h8
  obtain ⟨hR, _⟩ := readsI_waits hQ
  have hmem : e0.id ∈ waits l := by
    unfold waits; rw [List.mem_map]; exact ⟨e0, List.mem_filter.2 ⟨he, by simp [hd]⟩, rfl⟩
  obtain ⟨i, hi1, hi2, hi3⟩ := idxOf_get hmem
  have hdc : decide (0 ≤ idxOf (waits l) e0.id) = true := by rw [hi1]; simp
  have c1 : w.cell? ⟨q, 1, none⟩ = some (.slice a (waits l).length cap) := cell_of_has hQ.hq 1
  have c0 : w.cell? ⟨q, 0, none⟩ = some (.map (some r)) := cell_of_has hQ.hq 0
  have hqb := lt_of_has hQ.hq
  have hfd := filter_drop (waits_nodup hQ.hn) hi3
  obtain ⟨gw, capw, curw, hvw, hRw, hgw0, hgwl, hgwc, _⟩ := own_ints hQ.hv (by omega)
  injection hvw with hv1 hv2 hv3
  subst hv1; subst hv3
  obtain ⟨k, hk⟩ : ∃ k, (waits l).length = k + 1 := ⟨(waits l).length - 1, by omega⟩
  have HQ := Lib.hid hQ; have HR := Lib.hid hR; have HDC := Lib.hid hdc; have HI := Lib.hid hi1; have HFD := Lib.hid hfd; have HE := Lib.hid he; have HD := Lib.hid hd; have HGC := Lib.hid hgwc; have HK := Lib.hid hk
  have hC0 : Chg [] w (w.alloc (.cells #[.int .u64 s.x0, .int .u64 s.x1, .int .u64 s.x2, .int .u64 s.x3, .int .u64 s.y0, .int .u64 s.y1, .int .u64 s.y2, .int .u64 s.y3, .bool s.inf, .int .u64 s.z0, .int .u64 s.z1, .int .u64 s.z2, .int .u64 s.z3] 32)) := (Chg.refl [] w).alloc _
  have HC0 := Lib.hid hC0
  rw [hk] at c1 h8 hi2
  clear hQ hR hdc hi1 hi3 hmem hfd he hd hgwc hRw hC0 hk
  go_enter Try.func16, Try.ntmps16
  go_wp2_with fail
  refine (sl_contains _ (k + 1) _ (waits l) e0.id _ HK.out (by omega) (HR.out.chg HC0.out (by simp))).mono ?_
  rw [HDC.out]
  rintro e w1 ⟨rfl, rfl⟩
  go_wp2_with fail
  refine (sl_index _ (k + 1) _ (waits l) e0.id _ HK.out (by omega) (HR.out.chg HC0.out (by simp))).mono ?_
  rw [HI.out]
  rintro e w1 ⟨rfl, rfl⟩
  go_wp2_with fail
  refine (sl_clone gw (k + 1) _ (waits l) _ HK.out (by omega) (by omega) (HR.out.chg HC0.out (by simp))).mono ?_
  rintro e w2 ⟨v2, rfl, hown2, hC2⟩
  rcases hown2.2 with ⟨_, hz⟩ | ⟨g, cap2, cur2, rfl, hg2, hgc2, hn2, hm2, hs2, ht2⟩
  · omega
  have hm2' : cap2 ≤ 9223372036854775807 := hm2
  have HOWN := Lib.hid hown2; have HC2 := Lib.hid hC2; have HG2 := Lib.hid hgc2; have HS2 := Lib.hid hs2; have HT2 := Lib.hid ht2
  clear hown2 hC2 hgc2 hs2 ht2 hm2
  go_wp2_with fail
  refine (sl_delete g k cap2 i cur2 (waits l) _ (by omega) (by omega) (by omega) hm2' (by simpa using HS2.out) HK.out (by simpa using HT2.out) HG2.out).mono ?_
  rintro e w3 ⟨rfl, ⟨cur3, hg3, hs3, ht3⟩, hC3⟩
  have hCw3 : Chg [] w w3 := by
    refine Chg.trans_new ?_ hC3 (by simp at hg2 ⊢; omega)
    exact HC0.out.trans HC2.out
  have hQ3 := HQ.out.chg hCw3 (by simp) (by simp) (by simp) (by simp)
  have d0 : w3.cell? ⟨q, 0, none⟩ = some (.map (some r)) := cell_of_has hQ3.hq 0
  have d1 : w3.cell? ⟨q, 1, none⟩ = some (.slice (some ⟨gw, 0, none⟩) (waits l).length cap) := cell_of_has hQ3.hq 1
  have dz : w3.frozen? ⟨q, 1, none⟩ = false := frozen_of_has hQ3.hq 1
  have hl := look_keys HQ.out.hn HE.out
  have hqr : r ≠ q := hQ3.hm.ne hQ3.hq
  have hlk := run_lookup_one (P := Try.prog) (T := 87) (K := 3) (E := 90) (z := .pointer none) Try.underlying87 Try.underlying3 (by kernel_rfl) (hQ3.hm.chg ((Chg.refl [q] _).setCell (p := ⟨q, 1, none⟩) (Or.inl (by simp)) (.slice (some ⟨g, 0, none⟩) k cap2)) (by simpa using hqr)) e0.id
  rw [hl] at hlk
  simp only [Option.getD_some] at hlk
  have hb := hQ3.hk e0 HE.out
  have hbq : e0.b ≠ q := by
    intro heq
    rw [heq, hQ3.hq] at hb
    injection hb with hb
    injection hb with _ h2
    exact absurd h2 (by decide)
  have hbox : w3.heap[w.heap.size]? = some (.cells #[.int .u64 s.x0, .int .u64 s.x1, .int .u64 s.x2, .int .u64 s.x3, .int .u64 s.y0, .int .u64 s.y1, .int .u64 s.y2, .int .u64 s.y3, .bool s.inf, .int .u64 s.z0, .int .u64 s.z1, .int .u64 s.z2, .int .u64 s.z3] 32 (0, 0)) := by
    refine hC3.has (HC2.out.has (has_alloc_new _ _) (by simp)) ?_
    simp at hg2 ⊢; omega
  have hboxc0 : w3.cell? ⟨w.heap.size, 0, none⟩ = some (.int .u64 s.x0) := cell_of_has hbox 0; have hboxz0 : w3.frozen? ⟨w.heap.size, 0, none⟩ = false := frozen_of_has hbox 0; have hboxc1 : w3.cell? ⟨w.heap.size, 1, none⟩ = some (.int .u64 s.x1) := cell_of_has hbox 1; have hboxz1 : w3.frozen? ⟨w.heap.size, 1, none⟩ = false := frozen_of_has hbox 1; have hboxc2 : w3.cell? ⟨w.heap.size, 2, none⟩ = some (.int .u64 s.x2) := cell_of_has hbox 2; have hboxz2 : w3.frozen? ⟨w.heap.size, 2, none⟩ = false := frozen_of_has hbox 2; have hboxc3 : w3.cell? ⟨w.heap.size, 3, none⟩ = some (.int .u64 s.x3) := cell_of_has hbox 3; have hboxz3 : w3.frozen? ⟨w.heap.size, 3, none⟩ = false := frozen_of_has hbox 3; have hboxc4 : w3.cell? ⟨w.heap.size, 4, none⟩ = some (.int .u64 s.y0) := cell_of_has hbox 4; have hboxz4 : w3.frozen? ⟨w.heap.size, 4, none⟩ = false := frozen_of_has hbox 4; have hboxc5 : w3.cell? ⟨w.heap.size, 5, none⟩ = some (.int .u64 s.y1) := cell_of_has hbox 5; have hboxz5 : w3.frozen? ⟨w.heap.size, 5, none⟩ = false := frozen_of_has hbox 5; have hboxc6 : w3.cell? ⟨w.heap.size, 6, none⟩ = some (.int .u64 s.y2) := cell_of_has hbox 6; have hboxz6 : w3.frozen? ⟨w.heap.size, 6, none⟩ = false := frozen_of_has hbox 6; have hboxc7 : w3.cell? ⟨w.heap.size, 7, none⟩ = some (.int .u64 s.y3) := cell_of_has hbox 7; have hboxz7 : w3.frozen? ⟨w.heap.size, 7, none⟩ = false := frozen_of_has hbox 7; have hboxc8 : w3.cell? ⟨w.heap.size, 8, none⟩ = some (.bool s.inf) := cell_of_has hbox 8; have hboxz8 : w3.frozen? ⟨w.heap.size, 8, none⟩ = false := frozen_of_has hbox 8; have hboxc9 : w3.cell? ⟨w.heap.size, 9, none⟩ = some (.int .u64 s.z0) := cell_of_has hbox 9; have hboxz9 : w3.frozen? ⟨w.heap.size, 9, none⟩ = false := frozen_of_has hbox 9; have hboxc10 : w3.cell? ⟨w.heap.size, 10, none⟩ = some (.int .u64 s.z1) := cell_of_has hbox 10; have hboxz10 : w3.frozen? ⟨w.heap.size, 10, none⟩ = false := frozen_of_has hbox 10; have hboxc11 : w3.cell? ⟨w.heap.size, 11, none⟩ = some (.int .u64 s.z2) := cell_of_has hbox 11; have hboxz11 : w3.frozen? ⟨w.heap.size, 11, none⟩ = false := frozen_of_has hbox 11; have hboxc12 : w3.cell? ⟨w.heap.size, 12, none⟩ = some (.int .u64 s.z3) := cell_of_has hbox 12; have hboxz12 : w3.frozen? ⟨w.heap.size, 12, none⟩ = false := frozen_of_has hbox 12
  have hbb := lt_of_has (HQ.out.hk e0 HE.out)
  have k1 := cell_of_has hb 1; have kz1 := frozen_of_has hb 1; have k2 := cell_of_has hb 2; have kz2 := frozen_of_has hb 2; have k3 := cell_of_has hb 3; have kz3 := frozen_of_has hb 3; have k4 := cell_of_has hb 4; have kz4 := frozen_of_has hb 4; have k5 := cell_of_has hb 5; have kz5 := frozen_of_has hb 5; have k6 := cell_of_has hb 6; have kz6 := frozen_of_has hb 6; have k7 := cell_of_has hb 7; have kz7 := frozen_of_has hb 7; have k8 := cell_of_has hb 8; have kz8 := frozen_of_has hb 8; have k9 := cell_of_has hb 9; have kz9 := frozen_of_has hb 9; have k10 := cell_of_has hb 10; have kz10 := frozen_of_has hb 10; have k11 := cell_of_has hb 11; have kz11 := frozen_of_has hb 11; have k12 := cell_of_has hb 12; have kz12 := frozen_of_has hb 12; have k13 := cell_of_has hb 13; have kz13 := frozen_of_has hb 13; have k14 := cell_of_has hb 14; have kz14 := frozen_of_has hb 14
  simp only [List.getElem?_toArray, List.getElem?_cons_succ, List.getElem?_cons_zero] at k1 k2 k3 k4 k5 k6 k7 k8 k9 k10 k11 k12 k13 k14
  have HQ3 := Lib.hid hQ3; have HB := Lib.hid hb; have HBOX := Lib.hid hbox; have HCW3 := Lib.hid hCw3; have HG3 := Lib.hid hg3; have HS3 := Lib.hid hs3; have HT3 := Lib.hid ht3; have HC3 := Lib.hid hC3
  clear hQ3 hb hbox hCw3 hg3 hs3 ht3 hC3 hl
  have n1 : ¬ q = e0.b := fun h => hbq h.symm
  have n2 : ¬ e0.b = q := hbq
  have n3 : ¬ w.heap.size = q := by omega
  have n4 : ¬ w.heap.size = e0.b := by omega
  have n5 : ¬ q = w.heap.size := by omega
  have n6 : ¬ e0.b = w.heap.size := by omega
  go_wp2_with fail
  go_region
  all_goals
    go_wp2_with fail
    go_ret
    refine ⟨rfl, .slice (some ⟨g, 0, none⟩) k cap2, g, rfl, by simp at hg2; omega, ?_⟩
    have hE1 := has_set (has_far HB.out (p := ⟨q, 1, none⟩) hbq (.slice (some ⟨g, 0, none⟩) k cap2)) 1 (.bool true)
    have hF1 := has_far (has_set HQ3.out.hq 1 (.slice (some ⟨g, 0, none⟩) k cap2)) (p := ⟨e0.b, 1, none⟩) n1 (.bool true)
    have hE2 := has_set hE1 2 (.int .u64 s.x0)
    have hF2 := has_far hF1 (p := ⟨e0.b, 2, none⟩) n1 (.int .u64 s.x0)
    have hE3 := has_set hE2 3 (.int .u64 s.x1)
    have hF3 := has_far hF2 (p := ⟨e0.b, 3, none⟩) n1 (.int .u64 s.x1)
    have hE4 := has_set hE3 4 (.int .u64 s.x2)
    have hF4 := has_far hF3 (p := ⟨e0.b, 4, none⟩) n1 (.int .u64 s.x2)
    have hE5 := has_set hE4 5 (.int .u64 s.x3)
    have hF5 := has_far hF4 (p := ⟨e0.b, 5, none⟩) n1 (.int .u64 s.x3)
    have hE6 := has_set hE5 6 (.int .u64 s.y0)
    have hF6 := has_far hF5 (p := ⟨e0.b, 6, none⟩) n1 (.int .u64 s.y0)
    have hE7 := has_set hE6 7 (.int .u64 s.y1)
    have hF7 := has_far hF6 (p := ⟨e0.b, 7, none⟩) n1 (.int .u64 s.y1)
    have hE8 := has_set hE7 8 (.int .u64 s.y2)
    have hF8 := has_far hF7 (p := ⟨e0.b, 8, none⟩) n1 (.int .u64 s.y2)
    have hE9 := has_set hE8 9 (.int .u64 s.y3)
    have hF9 := has_far hF8 (p := ⟨e0.b, 9, none⟩) n1 (.int .u64 s.y3)
    have hE10 := has_set hE9 10 (.bool s.inf)
    have hF10 := has_far hF9 (p := ⟨e0.b, 10, none⟩) n1 (.bool s.inf)
    have hE11 := has_set hE10 11 (.int .u64 s.z0)
    have hF11 := has_far hF10 (p := ⟨e0.b, 11, none⟩) n1 (.int .u64 s.z0)
    have hE12 := has_set hE11 12 (.int .u64 s.z1)
    have hF12 := has_far hF11 (p := ⟨e0.b, 12, none⟩) n1 (.int .u64 s.z1)
    have hE13 := has_set hE12 13 (.int .u64 s.z2)
    have hF13 := has_far hF12 (p := ⟨e0.b, 13, none⟩) n1 (.int .u64 s.z2)
    have hE14 := has_set hE13 14 (.int .u64 s.z3)
    have hF14 := has_far hF13 (p := ⟨e0.b, 14, none⟩) n1 (.int .u64 s.z3)

    simp only [List.setIfInBounds_toArray, List.set_cons_succ, List.set_cons_zero] at hE14 hF14

    have hCC : Chg [q, e0.b] w3 (((((((((((((((w3.setCell ⟨q, 1, none⟩ (.slice (some ⟨g, 0, none⟩) k cap2)).setCell ⟨e0.b, 1, none⟩ (.bool true)).setCell ⟨e0.b, 2, none⟩ (.int .u64 s.x0)).setCell ⟨e0.b, 3, none⟩ (.int .u64 s.x1)).setCell ⟨e0.b, 4, none⟩ (.int .u64 s.x2)).setCell ⟨e0.b, 5, none⟩ (.int .u64 s.x3)).setCell ⟨e0.b, 6, none⟩ (.int .u64 s.y0)).setCell ⟨e0.b, 7, none⟩ (.int .u64 s.y1)).setCell ⟨e0.b, 8, none⟩ (.int .u64 s.y2)).setCell ⟨e0.b, 9, none⟩ (.int .u64 s.y3)).setCell ⟨e0.b, 10, none⟩ (.bool s.inf)).setCell ⟨e0.b, 11, none⟩ (.int .u64 s.z0)).setCell ⟨e0.b, 12, none⟩ (.int .u64 s.z1)).setCell ⟨e0.b, 13, none⟩ (.int .u64 s.z2)).setCell ⟨e0.b, 14, none⟩ (.int .u64 s.z3)) := by
      have hC := Chg.refl [q, e0.b] w3
      repeat (with_reducible first | exact hC | refine Chg.setCell ?_ ?_ _)
      all_goals exact Or.inl (by simp)

    have hfin := finish_end HQ.out HE.out HFD.out hi2 HK.out HCW3.out (by simp at hg2; omega) HG3.out HS3.out HT3.out (by omega) hm2' hCC hF14 hE14

    exact hfin

end Go.Proofs.Ytgiackgdceanhaa
