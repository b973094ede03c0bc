/- QueueRoom: the walk of the law. -/
import Derived.Test.YtgiackgdceanhaaQueueI
import Derived.Test.YtgiackgdceanhaaOpen
import Derived.ChangeMaps5
namespace Go.Proofs.Ytgiackgdceanhaa
set_option linter.unusedVariables false
set_option linter.unusedSimpArgs false
open Go.RowKit

def Room (m : ByteArray) (l : List Ent) : Prop := ∀ e ∈ l, e.done = false ∧ e.m = m ∧ okReq e.id m

theorem Room.waits {m : ByteArray} {l : List Ent} (h : Room m l) : waits l = l.map Ent.id := by
  unfold Go.Proofs.Ytgiackgdceanhaa.waits
  rw [List.filter_eq_self.2 (by intro e he; simp [(h e he).1])]

theorem room_bad {m : ByteArray} {l : List Ent} {id : Int} (hb : ¬ (1 ≤ id ∧ id ≤ 1099511627776)) : subCode l id m = 3 ∧ ∀ b, subL l id m b = l := by
  have : ¬ okReq id m := fun h => hb ⟨h.1, h.2.1⟩
  exact ⟨by unfold subCode; rw [if_neg this], fun b => by unfold subL; rw [if_neg this]⟩

theorem room_known {m : ByteArray} {l : List Ent} {id : Int} (h : Room m l) (hi : id ∈ l.map Ent.id) : subCode l id m = 1 ∧ ∀ b, subL l id m b = l := by
  obtain ⟨e0, he, rfl⟩ := List.mem_map.1 hi
  have hok := (h e0 he).2.2
  cases hf : fnd l e0.id with
  | none => exact absurd rfl (fnd_none hf e0 he)
  | some e1 =>
    have h1 := h e1 (fnd_some hf).1
    refine ⟨?_, fun b => ?_⟩
    · simp [subCode, if_pos hok, hf, knCode, h1.1, h1.2.1]
    · simp [subL, hok, hf]

theorem room_new {m : ByteArray} {l : List Ent} {id : Int} (h : Room m l) (hi : id ∉ l.map Ent.id) (hok : okReq id m) :
    subCode l id m = (if l.length = 8 then 2 else 1) ∧ ∀ b, subL l id m b = if l.length = 8 then l else l ++ [⟨id, m, false, .zero, b⟩] := by
  have hf : fnd l id = none := fnd_no (fun e he hx => hi (List.mem_map.2 ⟨e, he, hx⟩))
  have hw : (Go.Proofs.Ytgiackgdceanhaa.waits l).length = l.length := by rw [h.waits]; simp
  refine ⟨?_, fun b => ?_⟩
  · simp [subCode, if_pos hok, hf, hw]
  · simp [subL, hok, hf, hw]

theorem room_snoc {m : ByteArray} {l : List Ent} {id : Int} {b : Nat} (h : Room m l) (hok : okReq id m) : Room m (l ++ [⟨id, m, false, .zero, b⟩]) := by
  intro e he
  rcases List.mem_append.1 he with he | he
  · exact h e he
  · obtain rfl := List.mem_singleton.1 he
    exact ⟨rfl, rfl, hok⟩

theorem mem_take_succ {zs : List Int} {k : Nat} {x : Int} (h : k < zs.length) : decide (x ∈ zs.take (k + 1)) = (decide (x ∈ zs.take k) || zs.getD k 0 == x) := by
  rw [take_snocI zs k h]
  rw [Bool.eq_iff_iff]
  simp only [List.mem_append, List.mem_singleton, decide_eq_true_eq, Bool.or_eq_true, beq_iff_eq]
  constructor
  · rintro (h | h)
    · exact Or.inl h
    · exact Or.inr h.symm
  · rintro (h | h)
    · exact Or.inl h
    · exact Or.inr h.symm

/-- The law's own list of what was accepted, beside the queue. -/
structure Kn (w : World) (base q r : Nat) (v kv : Value) (l : List Ent) : Prop where
  hQ : QN w base q r v l
  hk : w.ownsRow base 3 1 kv l.length (ints (l.map Ent.id))
  hs : ∀ b, kv.ownBlock = some b → v.ownBlock ≠ some b

theorem ent_ne {w : World} {base q r : Nat} {v : Value} {l : List Ent} (h : QN w base q r v l) {e : Ent} (he : e ∈ l) : e.b ≠ q := by
  intro heq
  have h1 := h.hk e he
  rw [heq, h.hq] at h1
  injection h1 with h1
  injection h1 with _ h2
  exact absurd h2 (by decide)

/-- A queue beside a row of whole numbers that grows. -/
theorem QN.grown {w w' : World} {base q r : Nat} {v kv : Value} {l : List Ent} {n : Nat} {xs : List Value} (h : QN w base q r v l) (hk : w.ownsRow base 3 1 kv n xs)
    (hs : ∀ b, kv.ownBlock = some b → v.ownBlock ≠ some b) (hg : w.grownBy w' kv.ownBlock) : QN w' base q r v l := by
  have hC : Chg kv.ownBlock.toList w w' := (Chg.refl _ w).grown hg (by intro k hk; left; simp [hk])
  refine h.chg hC ?_ ?_ ?_ ?_
  · intro hm; exact own_ne hk h.hq (by decide) (Option.mem_toList.1 hm).symm
  · intro hm; exact own_ne_map hk h.hm (Option.mem_toList.1 hm).symm
  · intro e he hm; exact own_ne hk (h.hk e he) (by decide) (Option.mem_toList.1 hm).symm
  · intro b hb hm; exact hs b (Option.mem_toList.1 hm) hb

/-- What Submit leaves of the law's list. -/
theorem own_submit {w w' : World} {base q r : Nat} {v kv : Value} {l : List Ent} {n : Nat} {xs : List Value} (h : QN w base q r v l) (hk : w.ownsRow base 3 1 kv n xs)
    (hs : ∀ b, kv.ownBlock = some b → v.ownBlock ≠ some b) (hC : Chg (q :: r :: v.ownBlock.toList) w w') : w'.ownsRow base 3 1 kv n xs := by
  refine own_chg hk hC ?_
  intro b hb hm
  rcases List.mem_cons.1 hm with rfl | hm
  · exact own_ne hk h.hq (by decide) hb.symm
  · rcases List.mem_cons.1 hm with rfl | hm
    · exact own_ne_map hk h.hm hb.symm
    · exact hs b hb (Option.mem_toList.1 hm)

theorem sep_submit {w : World} {base : Nat} {v v' kv : Value} {n : Nat} {xs : List Value} (hk : w.ownsRow base 3 1 kv n xs)
    (hs : ∀ b, kv.ownBlock = some b → v.ownBlock ≠ some b) (hv : v'.ownBlock = v.ownBlock ∨ ∃ b, v'.ownBlock = some b ∧ w.heap.size ≤ b) : ∀ b, kv.ownBlock = some b → v'.ownBlock ≠ some b := by
  intro b hb hx
  rcases hv with h | ⟨b', h, hb'⟩
  · exact hs b hb (by rw [← h]; exact hx)
  · rw [h] at hx
    injection hx with hx
    have := (hk.lt b hb).2
    omega

theorem kn_keep {w w2 w3 : World} {base q r : Nat} {v v' kv : Value} {l : List Ent} (h : Kn w base q r v kv l) (hQ : QN w2 base q r v' l) (hv : v'.ownBlock = v.ownBlock ∨ ∃ b, v'.ownBlock = some b ∧ w.heap.size ≤ b)
    (hC : Chg (q :: r :: v.ownBlock.toList) w w2) (hC3 : Chg [] w2 w3) : Kn w3 base q r v' kv l :=
  ⟨hQ.chg0 hC3, own_chg (own_submit h.hQ h.hk h.hs hC) hC3 (by simp), sep_submit h.hk h.hs hv⟩

set_option maxRecDepth 100000 in
set_option maxHeartbeats 4000000 in
theorem room_main (a : Option Addr) (cap : Nat) (zs : List Int) (m : ByteArray) (W : World) (hR : ReadsI W a zs) (hz : zs.length ≤ 100) (hm : m.size ≤ 4096) :
    Calls Try.prog 3 #[.slice a zs.length cap, .string m] W fun e w' => e = .returned (.bool true) ∧ Below W.heap.size W w' := by
  have hm' : (m.size : Int) ≤ 4096 := by omega
  have HR := Lib.hid hR; clear hR
  go_enter Try.func3, Try.ntmps3
  go_wp2_with fail
  refine (queue_new _).mono ?_
  rintro e w1 ⟨q, r, rfl, hq, hQ, hC⟩
  have HC := Lib.hid hC; clear hC
  have HQ := Lib.hid hQ; clear hQ
  go_wp2_with fail
  go_loopw [6, 42] (fun kv i wr => ∃ (k : Nat) (v : Value) (l : List Ent), k ≤ zs.length ∧ i = .int .i64 k ∧ Kn wr W.heap.size q r v kv l ∧ Room m l ∧ l.length ≤ k ∧ Chg [] W wr) (fun _ i _ => zs.length - (intOf i).toNat)
  case atStart => exact ⟨0, _, [], by omega, rfl, ⟨HQ.out, World.ownsRow_nil _ _ _ _, by simp [Value.ownBlock]⟩, by simp [Room], by simp, HC.out⟩
  case round =>
    obtain ⟨k, v, l, hk, rfl, hKn, hRm, hlk, hCr⟩ := hrel
    obtain ⟨a2, cap2, rfl⟩ := own_shape hKn.hk
    have hkl : (l.map Ent.id).length = l.length := by simp
    by_cases hlt : k < zs.length
    · obtain ⟨b, off, hae, hb, hcell0⟩ := (HR.out.chg hCr (by simp)) (by omega)
      have hcell := hcell0 k hlt
      subst hae
      generalize zs.getD k 0 = x at *
      have HKN := Lib.hid hKn; have HRM := Lib.hid hRm; have HCR := Lib.hid hCr; have HKL := Lib.hid hkl
      clear hKn hRm hCr hcell0 hkl
      go_wp2_with fail
      go_loop [9, 48] (fun th j => ∃ jj : Nat, jj ≤ l.length ∧ j = .int .i64 jj ∧ th = .bool (decide (x ∈ (l.map Ent.id).take jj))) (fun _ j => l.length - (intOf j).toNat)
      case atStart => exact ⟨0, by omega, rfl, by simp⟩
      case round =>
        obtain ⟨j, hj, rfl, rfl⟩ := hrel
        by_cases hjl : j < l.length
        · obtain ⟨g, cap3, cur, hve, hRd, _, _, hgc, _⟩ := own_ints HKN.out.hk (by omega)
          injection hve with hv1 hv2 hv3
          subst hv1; subst hv3
          obtain ⟨gb, go, hge, _, hcc⟩ := hRd (by rw [HKL.out]; omega)
          have hx := hcc j (by rw [HKL.out]; exact hjl)
          injection hge with hge
          injection hge with hge1 hge2
          subst hge1; subst hge2
          rw [Nat.zero_add] at hx
          have hms := mem_take_succ (zs := l.map Ent.id) (k := j) (x := x) (by rw [HKL.out]; exact hjl)
          generalize (l.map Ent.id).getD j 0 = y at *
          generalize decide (x ∈ (l.map Ent.id).take j) = th at *
          have HMS := Lib.hid hms
          clear hms hRd hcc hgc
          cases th
          · go_wp2_with fail
            refine ⟨⟨j+1, by omega, by go_num, ?_⟩, by simp [intOf]; omega⟩
            rw [HMS.out]; rfl
          · go_wp2_with fail
            refine ⟨⟨j+1, by omega, by go_num, ?_⟩, by simp [intOf]; omega⟩
            rw [HMS.out]; rfl
        · obtain rfl : l.length = j := by omega
          rw [show (l.map Ent.id).take l.length = l.map Ent.id from List.take_of_length_le (by rw [HKL.out]; exact Nat.le_refl _)]
          by_cases hin : 1 ≤ x ∧ x ≤ 1099511627776
          · obtain ⟨hx1, hx2⟩ := hin
            have hx1' : ¬ x < 1 := by omega
            have hok : okReq x m := ⟨hx1, hx2, hm⟩
            by_cases hmem : x ∈ l.map Ent.id
            · obtain ⟨hc1, hc2⟩ := room_known HRM.out hmem
              rw [show decide (x ∈ l.map Ent.id) = true from by simpa using hmem]
              clear hmem hok
              go_wp2_with fail
              refine (submit_any W.heap.size q r v l x m _ HKN.out.hQ).mono ?_
              rw [hc1]
              generalize subSig l x m = sg
              rintro e w2 ⟨rfl, v', b2, hb2, hQ2, hv2, hC2⟩
              rw [hc2] at hQ2
              have HQ2 := Lib.hid hQ2; have HV2 := Lib.hid hv2; have HC2 := Lib.hid hC2; clear hQ2 hv2 hC2 hc2
              go_wp2_with fail
              refine ⟨⟨k+1, v', l, by omega, by go_num, kn_keep HKN.out HQ2.out HV2.out HC2.out (by repeat (with_reducible first | exact Chg.refl _ _ | refine Chg.setCell ?_ (Or.inr (Nat.le_refl _)) _ | apply Chg.drew | apply Chg.drewN | apply Chg.alloc)), HRM.out, by omega, (HKN.out.hQ.chgs HC2.out HCR.out (Nat.le_refl _)).trans (by repeat (with_reducible first | exact Chg.refl _ _ | refine Chg.setCell ?_ (Or.inr (Nat.le_refl _)) _ | apply Chg.drew | apply Chg.drewN | apply Chg.alloc))⟩, by simp [intOf]; omega⟩

            · obtain ⟨hc1, hc2⟩ := room_new HRM.out hmem hok
              rw [show decide (x ∈ l.map Ent.id) = false from by simpa using hmem]
              by_cases hl8 : l.length = 8
              · rw [if_pos hl8] at hc1 
                simp only [if_pos hl8] at hc2
                have e8 : ((l.length : Int) == 8) = true := by simp [hl8]
                clear hmem hok hl8
                go_wp2_with fail
                refine (submit_any W.heap.size q r v l x m _ HKN.out.hQ).mono ?_
                rw [hc1]
                generalize subSig l x m = sg
                rintro e w2 ⟨rfl, v', b2, hb2, hQ2, hv2, hC2⟩
                rw [hc2] at hQ2
                have HQ2 := Lib.hid hQ2; have HV2 := Lib.hid hv2; have HC2 := Lib.hid hC2; clear hQ2 hv2 hC2 hc2
                go_wp2_with fail
                refine ⟨⟨k+1, v', l, by omega, by go_num, kn_keep HKN.out HQ2.out HV2.out HC2.out (by repeat (with_reducible first | exact Chg.refl _ _ | refine Chg.setCell ?_ (Or.inr (Nat.le_refl _)) _ | apply Chg.drew | apply Chg.drewN | apply Chg.alloc)), HRM.out, by omega, (HKN.out.hQ.chgs HC2.out HCR.out (Nat.le_refl _)).trans (by repeat (with_reducible first | exact Chg.refl _ _ | refine Chg.setCell ?_ (Or.inr (Nat.le_refl _)) _ | apply Chg.drew | apply Chg.drewN | apply Chg.alloc))⟩, by simp [intOf]; omega⟩

              · rw [if_neg hl8] at hc1
                simp only [if_neg hl8] at hc2
                have e8 : ((l.length : Int) == 8) = false := by simpa using (by omega : ¬ (l.length : Int) = 8)
                have HOK := Lib.hid hok
                clear hmem hok hl8
                go_wp2_with fail
                refine (submit_any W.heap.size q r v l x m _ HKN.out.hQ).mono ?_
                rw [hc1]
                generalize subSig l x m = sg
                rintro e w2 ⟨rfl, v', b2, hb2, hQ2, hv2, hC2⟩
                rw [hc2] at hQ2
                have HQ2 := Lib.hid hQ2; have HV2 := Lib.hid hv2; have HC2 := Lib.hid hC2; clear hQ2 hv2 hC2 hc2

                have hown := own_submit HKN.out.hQ HKN.out.hk HKN.out.hs HC2.out
                have hsep := sep_submit HKN.out.hk HKN.out.hs HV2.out
                go_wp2_with (at_builtin; go_loud (refine wpList_push rfl (.tmp 89) (.tmp 91) 22 rfl elem_intS W.heap.size rfl ((hown.alloc _).alloc _) (w2.heap.size + 1) #[.int .i64 x] rfl rfl (has_alloc_at (by first | rfl | (simp; done))) (by simp [Value.oneCell']) (by omega) (by omega) (by have := HKN.out.hQ.hbase.1; have := lt_of_has HKN.out.hQ.hq; have := HC2.out.size; simp; omega) ?_); intro v3 w3 hown3 hgrow3 hat3)
                have hCw2 : Chg [] w2 ((w2.alloc (.cells #[.int .u64 sg.x0, .int .u64 sg.x1, .int .u64 sg.x2, .int .u64 sg.x3, .int .u64 sg.y0, .int .u64 sg.y1, .int .u64 sg.y2, .int .u64 sg.y3, .bool sg.inf, .int .u64 sg.z0, .int .u64 sg.z1, .int .u64 sg.z2, .int .u64 sg.z3] 32)).alloc (.cells #[.int .i64 x] 3)) := ((Chg.refl _ _).alloc _).alloc _
                refine ⟨⟨k+1, v', _, by omega, by go_num, ⟨(HQ2.out.chg0 hCw2).grown ((hown.alloc _).alloc _) hsep hgrow3, by simpa [ints] using hown3, ?_⟩, room_snoc HRM.out HOK.out, by simp; omega, ?_⟩, by simp [intOf]; omega⟩
                · intro b3 hb3 hx
                  rcases hat3 with h | h
                  · exact hsep b3 (h.symm.trans hb3) hx
                  · rw [h] at hb3
                    injection hb3 with hb3
                    have := (HQ2.out.hv.lt b3 hx).2
                    simp at hb3; omega
                · refine ((HKN.out.hQ.chgs HC2.out HCR.out (Nat.le_refl _)).trans hCw2).grown hgrow3 ?_
                  intro b3 hb3
                  exact Or.inr (hown.lt b3 hb3).1
          · obtain ⟨hc1, hc2⟩ := room_bad (m := m) (l := l) hin
            have hxx : x < 1 ∨ (1 ≤ x ∧ 1099511627776 < x) := by omega
            clear hin
            generalize decide (x ∈ l.map Ent.id) = th
            rcases hxx with hx1 | ⟨hx1, hx2⟩
            all_goals
              go_wp2_with fail
              refine (submit_any W.heap.size q r v l x m _ HKN.out.hQ).mono ?_
              rw [hc1]
              generalize subSig l x m = sg
              rintro e w2 ⟨rfl, v', b2, hb2, hQ2, hv2, hC2⟩
              rw [hc2] at hQ2
              have HQ2 := Lib.hid hQ2; have HV2 := Lib.hid hv2; have HC2 := Lib.hid hC2; clear hQ2 hv2 hC2 hc2
              go_wp2_with fail
              refine ⟨⟨k+1, v', l, by omega, by go_num, kn_keep HKN.out HQ2.out HV2.out HC2.out (by repeat (with_reducible first | exact Chg.refl _ _ | refine Chg.setCell ?_ (Or.inr (Nat.le_refl _)) _ | apply Chg.drew | apply Chg.drewN | apply Chg.alloc)), HRM.out, by omega, (HKN.out.hQ.chgs HC2.out HCR.out (Nat.le_refl _)).trans (by repeat (with_reducible first | exact Chg.refl _ _ | refine Chg.setCell ?_ (Or.inr (Nat.le_refl _)) _ | apply Chg.drew | apply Chg.drewN | apply Chg.alloc))⟩, by simp [intOf]; omega⟩
    · obtain rfl : zs.length = k := by omega
      have hw := hRm.waits
      have hwl : (waits l).length = l.length := by rw [hw]; exact hkl
      have hcount := queue_count W.heap.size q r v l wr hKn.hQ (by omega)
      rw [hwl] at hcount
      have h8 := hKn.hQ.h8
      rw [hwl] at h8
      have HKN := Lib.hid hKn; have HRM := Lib.hid hRm; have HCR := Lib.hid hCr; have HKL := Lib.hid hkl; have HW := Lib.hid hw; have HWL := Lib.hid hwl
      clear hKn hRm hCr hkl hw hwl
      by_cases hl8 : l.length = 8
      · have e8 : ((l.length : Int) == 8) = true := by simp [hl8]
        obtain ⟨g, cap3, cur, hve, hRd, _, _, hgc, _⟩ := own_ints HKN.out.hk (by omega)
        injection hve with hv1 hv2 hv3
        subst hv1; subst hv3
        obtain ⟨gb, go, hge, _, hcc⟩ := hRd (by rw [HKL.out]; omega)
        have hx := hcc 3 (by rw [HKL.out]; omega)
        injection hge with hge
        injection hge with hge1 hge2
        subst hge1; subst hge2
        rw [Nat.zero_add] at hx
        have h3l : 3 < l.length := by omega
        obtain ⟨e0, he0⟩ : ∃ e0, l[3] = e0 := ⟨_, rfl⟩
        have hmem : e0 ∈ l := by rw [← he0]; exact List.getElem_mem _
        have hge : (l.map Ent.id).getD 3 0 = e0.id := by simp [List.getD, h3l, he0]
        rw [hge] at hx
        have hgid := hge
        have HMEM := Lib.hid hmem; have HL8 := Lib.hid hl8; have HGID := Lib.hid hgid
        clear hge he0 hmem hRd hcc hgc hl8 hgid
        go_wp2_with fail
        refine hcount.mono ?_
        rintro e w2 ⟨rfl, k2, rfl⟩
        clear hcount
        go_wp2_with fail
        refine (finish_yes W.heap.size q r v l e0 .zero _ (HKN.out.hQ.chg0 (by repeat (with_reducible first | exact Chg.refl _ _ | refine Chg.setCell ?_ (Or.inr (Nat.le_refl _)) _ | apply Chg.drew | apply Chg.drewN | apply Chg.alloc))) HMEM.out (HRM.out e0 HMEM.out).1).mono ?_
        rintro e w3 ⟨rfl, v4, g4, hv4, hg4, hQ4, hC4⟩
        have hC4' : Chg [q, e0.b] wr w3 := Chg.trans (by repeat (with_reducible first | exact Chg.refl _ _ | refine Chg.setCell ?_ (Or.inr (Nat.le_refl _)) _ | apply Chg.drew | apply Chg.drewN | apply Chg.alloc)) hC4
        have hown3 : w3.ownsRow W.heap.size 3 1 (.slice (some ⟨g, 0, none⟩) l.length cap2) l.length (ints (l.map Ent.id)) := by
          refine own_chg HKN.out.hk hC4' ?_
          intro b hb hm
          rcases List.mem_cons.1 hm with rfl | hm
          · exact own_ne HKN.out.hk HKN.out.hQ.hq (by decide) hb.symm
          · obtain rfl := List.mem_singleton.1 hm
            exact own_ne HKN.out.hk (HKN.out.hQ.hk e0 HMEM.out) (by decide) hb.symm
        have hsep3 : ∀ b, (Value.slice (some ⟨g, 0, none⟩) l.length cap2).ownBlock = some b → v4.ownBlock ≠ some b := by
          intro b hb hx
          have h1 := (HKN.out.hk.lt b hb).2
          rw [hv4] at hx
          injection hx with hx
          simp at hg4; omega
        have hCW3 : Chg [] W w3 := HCR.out.trans_new hC4' (by
          intro x hx
          rcases List.mem_cons.1 hx with rfl | hx
          · exact Or.inr HKN.out.hQ.hbase.1
          · obtain rfl := List.mem_singleton.1 hx
            exact Or.inr (HKN.out.hQ.hbase.2.2 e0 HMEM.out))
        have HOWN3 := Lib.hid hown3; have HSEP3 := Lib.hid hsep3; have HQ4 := Lib.hid hQ4; have HCW3 := Lib.hid hCW3
        clear hown3 hsep3 hQ4 hCW3 hC4 hC4' hv4 hg4
        go_wp2_with fail
        have hsub := submit_any W.heap.size q r v4 (finL l e0.id .zero) 1099511627776 m w3 HQ4.out
        have hcode : 1099511627776 ∉ l.map Ent.id → subCode (finL l e0.id .zero) 1099511627776 m = 1 := by
          intro hno
          have h1 : (waits (finL l e0.id .zero)).length = 7 := by
            rw [finL_waits_filter, filter_drop (waits_nodup HKN.out.hQ.hn) (i := 3) (by rw [HW.out]; have := HL8.out; rw [← HGID.out]; simp [List.getD, h3l])]
            have := HWL.out; have := HL8.out
            simp; omega
          have h2 : fnd (finL l e0.id .zero) 1099511627776 = none := fnd_no (fun e he hx => hno (by rw [← finL_ids l e0.id .zero]; exact List.mem_map.2 ⟨e, he, hx⟩))
          have h3 : okReq 1099511627776 m := ⟨by omega, by omega, hm⟩
          simp [subCode, if_pos h3, h2, h1]
        generalize subCode (finL l e0.id .zero) 1099511627776 m = code at *
        generalize subSig (finL l e0.id .zero) 1099511627776 m = sg at *
        have HCODE := Lib.hid hcode
        clear hcode
        refine hsub.mono ?_
        rintro e w5 ⟨rfl, v5, b5, hb5, hQ5, hv5, hC5⟩
        have hown5 := own_submit HQ4.out HOWN3.out HSEP3.out hC5
        have hCW5 := HQ4.out.chgs hC5 HCW3.out (Nat.le_refl _)
        have HOWN5 := Lib.hid hown5; have HCW5 := Lib.hid hCW5
        clear hown5 hCW5 hQ5 hC5 hv5 hsub
        go_wp2_with fail
        go_loop [19, 121] (fun th j => ∃ jj : Nat, jj ≤ l.length ∧ j = .int .i64 jj ∧ th = .bool (decide (1099511627776 ∈ (l.map Ent.id).take jj))) (fun _ j => l.length - (intOf j).toNat)
        case atStart => exact ⟨0, by omega, rfl, by simp⟩
        case round =>
          obtain ⟨j, hj, rfl, rfl⟩ := hrel
          by_cases hjl : j < l.length
          · obtain ⟨g', cap3, cur, hve, hRd, _, _, hgc, _⟩ := own_ints HOWN5.out (by omega)
            injection hve with hv1 hv2 hv3
            injection hv1 with hv1
            injection hv1 with hv1
            subst hv1; subst hv3
            obtain ⟨gb, go, hge, _, hcc⟩ := hRd (by rw [HKL.out]; omega)
            have hx := (hcc j (by rw [HKL.out]; exact hjl))
            injection hge with hge
            injection hge with hge1 hge2
            subst hge1; subst hge2
            rw [Nat.zero_add] at hx
            have hx2 := (((Chg.refl [] w5).alloc (.cells #[.int .u64 sg.x0, .int .u64 sg.x1, .int .u64 sg.x2, .int .u64 sg.x3, .int .u64 sg.y0, .int .u64 sg.y1, .int .u64 sg.y2, .int .u64 sg.y3, .bool sg.inf, .int .u64 sg.z0, .int .u64 sg.z1, .int .u64 sg.z2, .int .u64 sg.z3] 32))).cell hx (by simp)
            have hms := mem_take_succ (zs := l.map Ent.id) (k := j) (x := 1099511627776) (by rw [HKL.out]; exact hjl)
            generalize (l.map Ent.id).getD j 0 = y at *
            generalize decide (1099511627776 ∈ (l.map Ent.id).take j) = th at *
            have HMS := Lib.hid hms
            clear hms hRd hcc hgc
            cases th
            · go_wp2_with fail
              refine ⟨⟨j+1, by omega, by go_num, ?_⟩, by simp [intOf]; omega⟩
              rw [HMS.out]; rfl
            · go_wp2_with fail
              refine ⟨⟨j+1, by omega, by go_num, ?_⟩, by simp [intOf]; omega⟩
              rw [HMS.out]; rfl
          · obtain rfl : l.length = j := by omega
            rw [show (l.map Ent.id).take l.length = l.map Ent.id from List.take_of_length_le (by rw [HKL.out]; exact Nat.le_refl _)]
            by_cases hin : 1099511627776 ∈ l.map Ent.id
            · rw [show decide (1099511627776 ∈ l.map Ent.id) = true from by simpa using hin]
              clear hin
              go_wp2_with fail
              refine (law22_four _).mono ?_
              rintro e w6 ⟨rfl, hC6⟩
              go_wp2_with fail
              go_ret
              exact ⟨rfl, ((HCW5.out.trans (by repeat (with_reducible first | exact Chg.refl _ _ | refine Chg.setCell ?_ (Or.inr (Nat.le_refl _)) _ | apply Chg.drew | apply Chg.drewN | apply Chg.alloc))).trans hC6).below⟩
            · rw [show decide (1099511627776 ∈ l.map Ent.id) = false from by simpa using hin]
              obtain rfl := HCODE.out hin
              clear hin
              go_wp2_with fail
              refine (law22_four _).mono ?_
              rintro e w6 ⟨rfl, hC6⟩
              go_wp2_with fail
              go_ret
              exact ⟨rfl, ((HCW5.out.trans (by repeat (with_reducible first | exact Chg.refl _ _ | refine Chg.setCell ?_ (Or.inr (Nat.le_refl _)) _ | apply Chg.drew | apply Chg.drewN | apply Chg.alloc))).trans hC6).below⟩
      · have e8 : ((l.length : Int) == 8) = false := by simpa using (by omega : ¬ (l.length : Int) = 8)
        clear hl8
        go_wp2_with fail
        refine hcount.mono ?_
        rintro e w2 ⟨rfl, k2, rfl⟩
        clear hcount
        go_wp2_with fail
        refine (law22_four _).mono ?_
        rintro e w3 ⟨rfl, hC3⟩
        go_wp2_with fail
        go_ret
        exact ⟨rfl, ((HCR.out.drewN _).trans hC3).below⟩

set_option maxRecDepth 100000 in
set_option maxHeartbeats 1000000 in
theorem room_any (a : Option Addr) (cap : Nat) (zs : List Int) (m : ByteArray) (W : World) (hR : ReadsI W a zs) (hzm : zs.length ≤ 9223372036854775807) (hmm : m.size ≤ 9223372036854775807) :
    Calls Try.prog 3 #[.slice a zs.length cap, .string m] W fun e w' => e = .returned (.bool true) ∧ Below W.heap.size W w' := by
  by_cases hz : zs.length ≤ 100
  · by_cases hm : m.size ≤ 4096
    · exact room_main a cap zs m W hR hz hm
    · clear hR
      have h1 : 4096 < (m.size : Int) := by omega
      go_enter Try.func3, Try.ntmps3
      go_wp2_with fail
      refine (queue_new _).mono ?_
      rintro e w1 ⟨q, r, rfl, hq, hQ, hC⟩
      have HC := Lib.hid hC; clear hC hQ
      go_wp2_with fail
      refine (law22_four _).mono ?_
      rintro e w3 ⟨rfl, hC3⟩
      go_wp2_with fail
      go_ret
      exact ⟨rfl, (HC.out.trans hC3).below⟩
  · clear hR
    have h1 : 100 < (zs.length : Int) := by omega
    go_enter Try.func3, Try.ntmps3
    go_wp2_with fail
    refine (queue_new _).mono ?_
    rintro e w1 ⟨q, r, rfl, hq, hQ, hC⟩
    have HC := Lib.hid hC; clear hC hQ
    go_wp2_with fail
    refine (law22_four _).mono ?_
    rintro e w3 ⟨rfl, hC3⟩
    go_wp2_with fail
    go_ret
    exact ⟨rfl, (HC.out.trans hC3).below⟩

section
open Go.WideShapes Go.ChangeShapes
variable {H : Type} (enc : TypeId × Value → H) (W : World)

theorem queueRoom_law {v0 v1 : Value} {d0 d1 : DataW H} {p0 p1 : List MemPlace} {base : Nat}
    (h0 : DataW.Trod enc Try.prog W 0 (fun _ => true) true 22 v0 d0 p0) (k0 : Value.okWide Try.prog W .any base 22 v0)
    (h1 : DataW.Trod enc Try.prog W 0 (fun _ => true) true 9 v1 d1 p1) (k1 : Value.okWide Try.prog W .any base 9 v1)
    (_hsz : (DataW.weightsEach Try.prog [22, 9] [d0, d1]).all (· ≤ reachBytes) = true) :
    Calls Try.prog 3 #[v0, v1] W fun e w' => e = .returned (.bool true) ∧ Below W.heap.size W w' := by
  obtain ⟨n0, g0⟩ := h0
  obtain ⟨a0, len0, cap0, rfl⟩ := okWide_slice Try.underlying22 k0
  obtain ⟨A, c, zs, hv, hR, hz, _⟩ := open_sliceI Try.underlying22 Try.underlying3 (by kernel_rfl) g0
  obtain ⟨s, rfl, _, _, hs⟩ := Go.ChangeMaps.open_string Try.underlying9 k1 h1
  injection hv with e1 e2 e3
  subst e1; subst e2; subst e3
  exact room_any _ _ zs s W hR hz hs

end

end Go.Proofs.Ytgiackgdceanhaa
