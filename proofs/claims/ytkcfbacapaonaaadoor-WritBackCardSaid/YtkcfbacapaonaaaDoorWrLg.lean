/- The laws' large and ref, walked. -/
import Derived.Test.YtkcfbacapaonaaaDoorWrV
import Derived.Test.YtkcfbacapaonaaaDoorWrS
import Derived.Test.YtkcfbacapaonaaaDoorWrOp
namespace Go.Proofs.YtkcfbacapaonaaaDoor
set_option linter.unusedVariables false
set_option linter.unusedSimpArgs false
open Go.RowKit Go.Lib

/-- The messages' bytes in all. -/
def msum : List Ch → Nat
  | [] => 0
  | x :: r => x.m.length + msum r
theorem msum_snoc (x : Ch) : ∀ l : List Ch, msum (l ++ [x]) = msum l + x.m.length
  | [] => by simp [msum]
  | y :: r => by rw [List.cons_append, msum, msum, msum_snoc x r]; omega
theorem msum_mem {x : Ch} : ∀ {l : List Ch}, x ∈ l → x.m.length ≤ msum l
  | y :: r, h => by
    rw [msum]
    rcases List.mem_cons.1 h with rfl | h
    · omega
    · have := msum_mem h; omega

set_option maxRecDepth 100000 in
set_option maxHeartbeats 16000000 in
theorem large_any {s : Sc} {A : Option Addr} {cap : Nat} (hs : s.seed.length ≤ reachBytes) (hl : ∀ x ∈ s.l, x.m.length ≤ reachBytes) (h63 : s.l.length ≤ 9223372036854775807) (w : World) (hR : ReadsC w A s.l) :
    Calls Tryd.prog 7 #[.agg (scv s (.slice A s.l.length cap))] w fun e w' => (∃ r : Bool, e = .returned (.bool r) ∧ (r = false → s.l.length ≤ 600 ∧ msum s.l ≤ 20000)) ∧ Chg [] w w' := by
  have hs' : s.seed.length ≤ 140737488351232 := hs
  have hl' : ∀ x ∈ s.l, x.m.length ≤ 140737488351232 := hl
  clear hs hl
  have hs := hs'; have hl := hl'
  clear hs' hl'
  obtain ⟨b, hb⟩ : ∃ b, w.heap.size = b := ⟨_, rfl⟩
  obtain ⟨W1, hW1⟩ : ∃ W1, w.alloc (.cells (scv s (.slice A s.l.length cap)) 24) = W1 := ⟨_, rfl⟩
  have hX : W1.heap[b]? = some (.cells (scv s (.slice A s.l.length cap)) 24 (0, 0)) := by rw [← hW1, ← hb]; exact has_alloc_new _ _
  have hC1 : Chg [] w W1 := by rw [← hW1]; exact (Chg.refl _ _).alloc _
  obtain ⟨x0, x1, x2, x3, x4⟩ := sc_all hX
  have HX := Lib.hid hX; have HC1 := Lib.hid hC1; have HW1 := Lib.hid hW1; have Hb := Lib.hid hb
  have HR := Lib.hid (hR.chg hC1 (by simp)); have HLen := Lib.hid hl
  clear hX hC1 hW1 hb hR hl
  go_enter Tryd.func7, Tryd.ntmps7
  go_upto_region 1 with fail
  try rw [show (w.alloc (.cells (scv s (.slice A s.l.length cap)) 24)) = W1 from HW1.out]
  try rw [Hb.out]
  go_wp2_with fail
  clear x0 x1 x2 x3 x4
  go_loopg [3, 5, 12] s.l.length (fun g o _ i wr => ∃ (k : Nat) (m : Nat), g + k = s.l.length ∧ i = .int .i64 k ∧ o = .int .i64 m ∧ (m ≤ 20000 ∨ k = 0) ∧ m = s.seed.length + msum (s.l.take k) ∧ Chg [] W1 wr)
  case atStart => exact ⟨0, s.seed.length, rfl, rfl, rfl, Or.inr rfl, by simp [msum], Chg.refl _ _⟩
  case round =>
    obtain ⟨k, m, hk, rfl, rfl, hm, hms, hC⟩ := hrel
    by_cases hlt : k < s.l.length
    · obtain ⟨bl, off, rfl, hbl, hcell⟩ := (HR.out.chg hC (by simp)) (by omega)
      obtain ⟨x, hx⟩ : ∃ x, s.l[k] = x := ⟨_, rfl⟩
      have hxk : s.l[k]? = some x := by rw [List.getElem?_eq_getElem hlt, hx]
      have hxm : x ∈ s.l := by rw [← hx]; exact List.getElem_mem hlt
      have htk : s.l.take (k + 1) = s.l.take k ++ [x] := by rw [List.take_succ_eq_append_getElem hlt, hx]
      have hxl : x.m.length ≤ 281474976710656 := by have := HLen.out x hxm; omega
      obtain ⟨k0, k1, k2, k3, k4, k5⟩ := readsC_at hcell hxk
      have HT := Lib.hid htk; have HC := Lib.hid hC; have HK := Lib.hid hk; have HMS := Lib.hid hms
      obtain ⟨b3, hb3⟩ : ∃ b, wr.heap.size = b := ⟨_, rfl⟩
      obtain ⟨W3, hW3⟩ : ∃ W3, wr.alloc (.cells (cv x) 61) = W3 := ⟨_, rfl⟩
      have hB3 : CB W3 b3 x := by rw [← hW3, ← hb3]; exact has_alloc_new _ _
      have hC3 : Chg [] wr W3 := by rw [← hW3]; exact (Chg.refl _ _).alloc _
      have HB3 := Lib.hid hB3; have HC3 := Lib.hid hC3; have HW3 := Lib.hid hW3; have Hb3 := Lib.hid hb3
      clear hcell hx hxk hxm htk hC hk hms hB3 hC3 hW3 hb3
      go_upto_region 5 with fail
      try rw [show wr.alloc (.cells #[.int .i64 x.kind, .int .i64 x.node, .int .i64 x.n, .int .i64 x.id, .int .i64 x.mask, .string ⟨x.m.toArray⟩] 61) = W3 from HW3.out]
      try rw [Hb3.out]
      clear k0 k1 k2 k3 k4 k5
      obtain ⟨k0, k1, k2, k3, k4, k5⟩ := HB3.out.all
      go_upto_region 6 with fail
      have hmb : m ≤ 200000000000000 := by
        rcases hm with h | h
        · omega
        · have := HMS.out; rw [h] at this; simp [msum] at this; omega
      have hwr : wrap64 ((m : Int) + (x.m.length : Int)) = ((m + x.m.length : Nat) : Int) := by
        unfold wrap64; omega
      rw [hwr]
      clear hwr hm
      by_cases q : 20000 < m + x.m.length
      · have f1 : decide ((20000 : Int) < ((m + x.m.length : Nat) : Int)) = true := decide_eq_true (by omega)
        go_wp2_with fail
        go_ret
        exact ⟨⟨true, rfl, fun h => by cases h⟩, HC1.out.trans (HC.out.trans HC3.out)⟩
      · have f1 : decide ((20000 : Int) < ((m + x.m.length : Nat) : Int)) = false := decide_eq_false (by omega)
        go_wp2_with fail
        go_roundg (s.l.length - (k + 1))
        case measure => have := HK.out; omega
        case rel => exact ⟨k + 1, m + x.m.length, by have := HK.out; omega, by go_num, rfl, Or.inl (by omega), by rw [HT.out, msum_snoc, HMS.out]; omega, HC.out.trans HC3.out⟩
    · obtain rfl : k = s.l.length := by omega
      have HC := Lib.hid hC
      have HMS := Lib.hid hms
      have hm2 : s.l.length = 0 ∨ m ≤ 20000 := by omega
      clear hC hms hm
      go_upto_region 9 with fail
      obtain ⟨x0, x1, x2, x3, x4⟩ := sc_all (HC.out.has HX.out nmN)
      by_cases q : 600 < s.l.length
      · have f1 : decide ((600 : Int) < s.l.length) = true := decide_eq_true (by omega)
        go_wp2_with fail
        go_ret
        exact ⟨⟨true, rfl, fun h => by cases h⟩, HC1.out.trans HC.out⟩
      · have f1 : decide ((600 : Int) < s.l.length) = false := decide_eq_false (by omega)
        go_wp2_with fail
        go_ret
        refine ⟨⟨false, rfl, fun _ => ⟨by omega, ?_⟩⟩, HC1.out.trans HC.out⟩
        have h1 := HMS.out
        rw [List.take_length] at h1
        rcases hm2 with h | h
        · rw [List.length_eq_zero_iff.1 h]; simp [msum]
        · omega

set_option maxRecDepth 100000 in
set_option maxHeartbeats 16000000 in
theorem ref_any {s : Sc} {A : Option Addr} {n cap : Nat} (w : World) :
    Calls Tryd.prog 11 #[.agg (scv s (.slice A n cap))] w fun e w' => e = .returned (.agg (scv s (.slice A n cap))) ∧ Chg [] w w' := by
  obtain ⟨b, hb⟩ : ∃ b, w.heap.size = b := ⟨_, rfl⟩
  obtain ⟨W1, hW1⟩ : ∃ W1, (w.alloc (.cells (scv s (.slice A n cap)) 24)).alloc (.cells (scv ⟨0, 0, 0, [], []⟩ (.slice none 0 0)) 32) = W1 := ⟨_, rfl⟩
  have hX : W1.heap[b]? = some (.cells (scv s (.slice A n cap)) 24 (0, 0)) := by rw [← hW1, ← hb]; exact has_alloc (has_alloc_new _ _)
  have hY : W1.heap[b + 1]? = some (.cells (scv ⟨0, 0, 0, [], []⟩ (.slice none 0 0)) 32 (0, 0)) := by rw [← hW1, ← hb]; exact has_alloc_at (by simp)
  have hC1 : Chg [] w W1 := by rw [← hW1]; exact ((Chg.refl _ _).alloc _).alloc _
  obtain ⟨x0, x1, x2, x3, x4⟩ := sc_all hX
  have HY := Lib.hid hY; have HC1 := Lib.hid hC1; have HW1 := Lib.hid hW1; have Hb := Lib.hid hb
  clear hX hY hC1 hW1 hb
  go_enter Tryd.func11, Tryd.ntmps11
  go_upto_region 1 with fail
  rw [show ((w.alloc (.cells (scv s (.slice A n cap)) 24)).alloc (.cells #[.int .i64 0, .int .i64 0, .int .i64 0, .string ⟨#[]⟩, .slice none 0 0] 32)) = W1 from HW1.out]
  try rw [Hb.out]
  obtain ⟨y0, y1, y2, y3, y4⟩ := sc_all HY.out
  have z0 := sc_fz HY.out 0; have z1 := sc_fz HY.out 1; have z2 := sc_fz HY.out 2; have z3 := sc_fz HY.out 3; have z4 := sc_fz HY.out 4
  go_wp2_with fail
  obtain ⟨W6, hW6⟩ : ∃ W6, ((((W1.setCell ⟨b + 1, 0, none⟩ (.int .i64 s.n)).setCell ⟨b + 1, 1, none⟩ (.int .i64 s.f)).setCell ⟨b + 1, 2, none⟩ (.int .i64 s.odd)).setCell ⟨b + 1, 3, none⟩ (.string ⟨s.seed.toArray⟩)).setCell ⟨b + 1, 4, none⟩ (.slice A n cap) = W6 := ⟨_, rfl⟩
  have hB6 : W6.heap[b + 1]? = some (.cells (scv s (.slice A n cap)) 32 (0, 0)) := by rw [← hW6]; exact put5_has HY.out s (.slice A n cap)
  have HCF := Lib.hid (show Chg [] w W6 by rw [← hW6]; exact HC1.out.put5 (Or.inr (by have := Hb.out; omega)) s (.slice A n cap))
  obtain ⟨k0, k1, k2, k3, k4⟩ := sc_all hB6
  rw [hW6]
  clear hW6 hB6
  exact bodyPost_ret (v := .agg (scv s (.slice A n cap))) (by simp [results, Tryd.results11, go_sem, scv, k0, k1, k2, k3, k4]) rfl ⟨rfl, HCF.out⟩

end Go.Proofs.YtkcfbacapaonaaaDoor
