/- The document's way to read a number. Printed by numd.py. -/
import Derived.Test.YtkcfbacapaonaaaDoorWrI
namespace Go.Proofs.YtkcfbacapaonaaaDoor
set_option linter.unusedVariables false
set_option linter.unusedSimpArgs false
open Go.RowKit Go.Lib

theorem wrap_in (x : Int) : In64 (wrap64 x) := by
  unfold In64 wrap64
  omega
theorem numF_in : ∀ {l : List UInt8} {acc n : Int}, In64 acc → numF l acc = some n → In64 n
  | [], acc, n, ha, h => by injection h with h; rw [← h]; exact ha
  | c :: r, acc, n, ha, h => by
    rw [numF] at h
    split at h
    · exact numF_in (wrap_in _) h
    · cases h
theorem str2_eq {l : List UInt8} {s : ByteArray} (h : l = s.data.toList) : (l == s.toList) = true := by rw [ba_toList, ← h]; simp
theorem str2_ne {l : List UInt8} {s : ByteArray} (h : l ≠ s.data.toList) : (l == s.toList) = false := by rw [ba_toList]; simpa using h
def NumOut (o : Option Int) (e : Ending) : Prop := match o with | some m => e = .returned (.tuple #[.int .i64 m, .bool true]) | none => ∃ n, e = .returned (.tuple #[.int .i64 n, .bool false])

set_option maxRecDepth 100000 in
set_option maxHeartbeats 8000000 in
theorem ref_number_pos (s : ByteArray) (hs : s.size ≤ 1000000) (hc : (digs s.data.toList).length = s.data.toList.length) (w : World) (hg : GW w) :
    Calls Tryd.prog 44 #[.string s] w fun e w' => NumOut (numS s.data.toList) e ∧ Chg [] w w' := by
  have hsz : s.data.toList.length = s.size := rfl
  have htl : s.data.toList = digs s.data.toList := by
    unfold digs at hc ⊢
    split
    · rename_i h
      rw [if_pos h] at hc
      cases e : s.data.toList with
      | nil => rfl
      | cons a r => rw [e] at hc; simp at hc
    · rfl
  by_cases hs0 : s.size = 0
  · have e : s = ⟨#[]⟩ := Go.WideShapes.bytes_inj (List.length_eq_zero_iff.1 (hsz.trans hs0))
    subst e
    have e2 : numS [] = none := by unfold numS; rw [if_neg]; intro e; rw [show numV [] = 0 from rfl] at e; unfold itoa at e; rw [if_neg (by omega)] at e; exact dec_ne _ e
    clear htl hc hsz hs0
    go_enter Tryd.func44, Tryd.ntmps44
    go_wp2_with fail
    go_ret2
    exact ⟨by show NumOut (numS []) _; rw [e2]; exact ⟨_, rfl⟩, Chg.refl _ _⟩
  · have h0 : 0 < s.size := by omega
    have p1 : decide ((0 : Int) < s.size) = true := decide_eq_true (by omega)
    have p2 : (((s[0]'h0).toNat : Int) == 45) = false := u8_ne (a := s[0]'h0) (b := 45) (by
      intro e
      have hh : s.data.toList.head? = some 45 := by rw [List.head?_eq_getElem?, List.getElem?_eq_getElem (show 0 < s.data.toList.length from h0)]; exact congrArg some e
      unfold digs at hc
      rw [if_pos hh, List.length_tail] at hc
      have := hsz
      omega)
    have hc45 := Lib.hid hc
    have HTl := Lib.hid htl
    have HS := Lib.hid hsz
    by_cases hlen : s.size < 1 ∨ 19 < s.size
    · have HR := Lib.hid (show numRV s.data.toList = none by unfold numRV; rw [if_pos (by rw [← htl]; exact hlen)])
      have HN := Lib.hid (show numS s.data.toList = none by
        cases h : numS s.data.toList with
        | none => rfl
        | some m => have := numRV_some h; rw [HR.out] at this; cases this)
      clear hc htl hsz
      by_cases h1 : s.size < 1
      · have f1 : decide ((s.size : Int) < 1) = true := decide_eq_true (by omega)
        go_enter Tryd.func44, Tryd.ntmps44
        go_wp2_with fail
        go_ret2
        exact ⟨by rw [HN.out]; exact ⟨_, rfl⟩, Chg.refl _ _⟩
      · have f1 : decide ((s.size : Int) < 1) = false := decide_eq_false (by omega)
        have f2 : decide ((19 : Int) < s.size) = true := decide_eq_true (by omega)
        go_enter Tryd.func44, Tryd.ntmps44
        go_wp2_with fail
        go_ret2
        exact ⟨by rw [HN.out]; exact ⟨_, rfl⟩, Chg.refl _ _⟩
    · have f1 : decide ((s.size : Int) < 1) = false := decide_eq_false (by omega)
      have f2 : decide ((19 : Int) < s.size) = false := decide_eq_false (by omega)
      have h19 : s.size ≤ 19 := by omega
      have HL := Lib.hid hlen
      clear hc htl hsz hlen
      go_enter Tryd.func44, Tryd.ntmps44
      go_wp2_with fail
      go_loopg [5, 6, 7] s.size (fun g n i _ wr => ∃ (k : Nat) (acc : Int), g + k = s.size ∧ i = .int .i64 k ∧ n = .int .i64 acc ∧ numF (s.data.toList.drop k) acc = numF s.data.toList 0 ∧ Chg [] w wr)
      case atStart => exact ⟨0, 0, rfl, rfl, rfl, rfl, Chg.refl _ _⟩
      case round =>
        obtain ⟨k, acc, hk, rfl, rfl, hn, hC⟩ := hrel
        by_cases hlt : k < s.size
        · have hq := (s[k]).toNat_lt
          have hdr : numF (s.data.toList.drop k) acc = numF (s[k] :: s.data.toList.drop (k + 1)) acc := by
            rw [List.drop_eq_getElem_cons (show k < s.data.toList.length from hlt)]; rfl
          have HN := Lib.hid hn; have HD := Lib.hid hdr; have HK := Lib.hid hk; have HC := Lib.hid hC
          clear hn hdr hk hC
          by_cases h48 : 48 ≤ (s[k]).toNat
          · by_cases h57 : (s[k]).toNat ≤ 57
            · have g1 : decide (((s[k]).toNat : Int) - 48 < 0) = false := decide_eq_false (by omega)
              have g2 : decide ((9 : Int) < ((s[k]).toNat : Int) - 48) = false := decide_eq_false (by omega)
              go_wp2_with fail
              go_roundg (s.size - (k + 1))
              case measure => have := HK.out; omega
              case rel =>
                refine ⟨k + 1, _, by have := HK.out; omega, by go_num, rfl, ?_, HC.out⟩
                have h := HD.out
                rw [HN.out, numF, if_pos ⟨h48, h57⟩] at h
                exact h.symm
            · have g1 : decide (((s[k]).toNat : Int) - 48 < 0) = false := decide_eq_false (by omega)
              have g2 : decide ((9 : Int) < ((s[k]).toNat : Int) - 48) = true := decide_eq_true (by omega)
              have HZ := Lib.hid (show numS s.data.toList = none by
                have h := HD.out
                rw [HN.out, numF, if_neg (by omega)] at h
                cases h2 : numS s.data.toList with
                | none => rfl
                | some m => have h3 := numRV_some h2; unfold numRV at h3; rw [← HTl.out, h] at h3; split at h3 <;> cases h3)
              go_wp2_with fail
              go_ret2
              exact ⟨by rw [HZ.out]; exact ⟨_, rfl⟩, HC.out⟩
          · have g1 : decide (((s[k]).toNat : Int) - 48 < 0) = true := decide_eq_true (by omega)
            have HZ := Lib.hid (show numS s.data.toList = none by
              have h := HD.out
              rw [HN.out, numF, if_neg (by omega)] at h
              cases h2 : numS s.data.toList with
              | none => rfl
              | some m => have h3 := numRV_some h2; unfold numRV at h3; rw [← HTl.out, h] at h3; split at h3 <;> cases h3)
            go_wp2_with fail
            go_ret2
            exact ⟨by rw [HZ.out]; exact ⟨_, rfl⟩, HC.out⟩
        · obtain rfl : k = s.size := by omega
          have hz : numF s.data.toList 0 = some acc := by
            rw [← hn, List.drop_of_length_le (show s.data.toList.length ≤ s.size from Nat.le_refl _)]; rfl
          have hr : numRV s.data.toList = some (wrap64 (-acc)) := by
            unfold numRV
            rw [← HTl.out, if_neg (by exact HL.out), hz, Option.map_some]
            rw [if_pos rfl]
          have hin : In64 (wrap64 (-acc)) := wrap_in _
          have q : decide ((s.size : Int) = s.size) = true := by simp
          have HR := Lib.hid hr; have HC := Lib.hid hC
          clear hn hk hC hz hr
          obtain ⟨nv, hnv⟩ : ∃ x, wrap64 (-acc) = x := ⟨_, rfl⟩
          have HNV := Lib.hid hnv
          rw [hnv] at hin
          have cI := Lib.hid (fun w hg => itoa_any hin w hg)
          have HG := Lib.hid (hg.chg HC.out)
          clear hnv
          go_wp2_with fail
          rw [HNV.out]
          refine (cI.out _ HG.out).mono ?_
          rintro e w1 ⟨rfl, hC1⟩
          replace HC := Lib.hid (HC.out.trans hC1)
          clear hC1
          by_cases he : itoa nv = s.data.toList
          · have e1 := str2_eq he
            have HF := Lib.hid (show numS s.data.toList = some nv by rw [← he]; exact numS_itoa hin)
            clear he hin
            go_wp2_with fail
            go_ret2
            exact ⟨by rw [HF.out]; rfl, HC.out⟩
          · have e1 := str2_ne he
            have HF := Lib.hid (show numS s.data.toList = none by
              cases h : numS s.data.toList with
              | none => rfl
              | some m =>
                exfalso
                have h1 := numRV_some h
                rw [HR.out, HNV.out] at h1
                injection h1 with h1
                exact he (by rw [h1]; exact (numS_some h).1))
            clear he hin
            go_wp2_with fail
            go_ret2
            exact ⟨by rw [HF.out]; exact ⟨_, rfl⟩, HC.out⟩

theorem slice_from {s t : ByteArray} (h1 : 1 ≤ s.size) (ht : s.extract 1 s.size = t) (w : World) : (Instr.slice 9 (.string s) (some (.int .i64 1)) none none).run Tryd.prog w = .ok (.string t) w := by
  rw [run_slice_string_from_if w 9 s .i64 1 Tryd.underlying9, if_pos (by omega)]
  exact congrArg (fun z => Result.ok (Value.string z) w) ht
set_option maxRecDepth 100000 in
set_option maxHeartbeats 8000000 in
theorem ref_number_neg (s : ByteArray) (hs : s.size ≤ 1000000) (hc : ¬ (digs s.data.toList).length = s.data.toList.length) (w : World) (hg : GW w) :
    Calls Tryd.prog 44 #[.string s] w fun e w' => NumOut (numS s.data.toList) e ∧ Chg [] w w' := by
  have hsz : s.data.toList.length = s.size := rfl
  have hh : s.data.toList.head? = some 45 := by
    refine Classical.byContradiction fun h => hc ?_
    unfold digs
    rw [if_neg h]
  have h0 : 0 < s.size := by
    rw [← hsz]
    cases e : s.data.toList with
    | nil => rw [e] at hh; cases hh
    | cons a r => simp
  obtain ⟨t, ht⟩ : ∃ t, s.extract 1 s.size = t := ⟨_, rfl⟩
  have htl : t.data.toList = digs s.data.toList := by
    unfold digs
    rw [if_pos hh, ← ht, Lib.extract_to_end, List.drop_one]
  have hts : t.size + 1 = s.size := by
    have h1 : t.data.toList.length = t.size := rfl
    rw [htl] at h1
    unfold digs at h1
    rw [if_pos hh, List.length_tail] at h1
    omega
  have sl := fun w => slice_from (by omega) ht w
  have p1 : decide ((0 : Int) < s.size) = true := decide_eq_true (by omega)
  have p2 : (((s[0]'h0).toNat : Int) == 45) = true := u8_eq (a := s[0]'h0) (b := 45) (by
    rw [List.head?_eq_getElem?, List.getElem?_eq_getElem (show 0 < s.data.toList.length from h0)] at hh
    injection hh)
  have qq : decide ((t.size : Int) = s.size) = false := decide_eq_false (by omega)
  have qb : ((t.size : Int) == s.size) = false := beq_eq_false_iff_ne.2 (by omega)
  have HTS := Lib.hid hts
  clear ht hts hh
  refine id ?_
  · skip
    have hc45 := Lib.hid hc
    have HTl := Lib.hid htl
    have HS := Lib.hid hsz
    by_cases hlen : t.size < 1 ∨ 19 < t.size
    · have HR := Lib.hid (show numRV s.data.toList = none by unfold numRV; rw [if_pos (by rw [← htl]; exact hlen)])
      have HN := Lib.hid (show numS s.data.toList = none by
        cases h : numS s.data.toList with
        | none => rfl
        | some m => have := numRV_some h; rw [HR.out] at this; cases this)
      clear hc htl hsz
      by_cases h1 : t.size < 1
      · have f1 : decide ((t.size : Int) < 1) = true := decide_eq_true (by omega)
        go_enter Tryd.func44, Tryd.ntmps44
        go_wp2_with fail
        go_ret2
        exact ⟨by rw [HN.out]; exact ⟨_, rfl⟩, Chg.refl _ _⟩
      · have f1 : decide ((t.size : Int) < 1) = false := decide_eq_false (by omega)
        have f2 : decide ((19 : Int) < t.size) = true := decide_eq_true (by omega)
        go_enter Tryd.func44, Tryd.ntmps44
        go_wp2_with fail
        go_ret2
        exact ⟨by rw [HN.out]; exact ⟨_, rfl⟩, Chg.refl _ _⟩
    · have f1 : decide ((t.size : Int) < 1) = false := decide_eq_false (by omega)
      have f2 : decide ((19 : Int) < t.size) = false := decide_eq_false (by omega)
      have h19 : t.size ≤ 19 := by omega
      have HL := Lib.hid hlen
      clear hc htl hsz hlen
      go_enter Tryd.func44, Tryd.ntmps44
      go_wp2_with fail
      go_loopg [5, 6, 7] t.size (fun g n i _ wr => ∃ (k : Nat) (acc : Int), g + k = t.size ∧ i = .int .i64 k ∧ n = .int .i64 acc ∧ numF (t.data.toList.drop k) acc = numF t.data.toList 0 ∧ Chg [] w wr)
      case atStart => exact ⟨0, 0, rfl, rfl, rfl, rfl, Chg.refl _ _⟩
      case round =>
        obtain ⟨k, acc, hk, rfl, rfl, hn, hC⟩ := hrel
        by_cases hlt : k < t.size
        · have hq := (t[k]).toNat_lt
          have hdr : numF (t.data.toList.drop k) acc = numF (t[k] :: t.data.toList.drop (k + 1)) acc := by
            rw [List.drop_eq_getElem_cons (show k < t.data.toList.length from hlt)]; rfl
          have HN := Lib.hid hn; have HD := Lib.hid hdr; have HK := Lib.hid hk; have HC := Lib.hid hC
          clear hn hdr hk hC
          by_cases h48 : 48 ≤ (t[k]).toNat
          · by_cases h57 : (t[k]).toNat ≤ 57
            · have g1 : decide (((t[k]).toNat : Int) - 48 < 0) = false := decide_eq_false (by omega)
              have g2 : decide ((9 : Int) < ((t[k]).toNat : Int) - 48) = false := decide_eq_false (by omega)
              go_wp2_with fail
              go_roundg (t.size - (k + 1))
              case measure => have := HK.out; omega
              case rel =>
                refine ⟨k + 1, _, by have := HK.out; omega, by go_num, rfl, ?_, HC.out⟩
                have h := HD.out
                rw [HN.out, numF, if_pos ⟨h48, h57⟩] at h
                exact h.symm
            · have g1 : decide (((t[k]).toNat : Int) - 48 < 0) = false := decide_eq_false (by omega)
              have g2 : decide ((9 : Int) < ((t[k]).toNat : Int) - 48) = true := decide_eq_true (by omega)
              have HZ := Lib.hid (show numS s.data.toList = none by
                have h := HD.out
                rw [HN.out, numF, if_neg (by omega)] at h
                cases h2 : numS s.data.toList with
                | none => rfl
                | some m => have h3 := numRV_some h2; unfold numRV at h3; rw [← HTl.out, h] at h3; split at h3 <;> cases h3)
              go_wp2_with fail
              go_ret2
              exact ⟨by rw [HZ.out]; exact ⟨_, rfl⟩, HC.out⟩
          · have g1 : decide (((t[k]).toNat : Int) - 48 < 0) = true := decide_eq_true (by omega)
            have HZ := Lib.hid (show numS s.data.toList = none by
              have h := HD.out
              rw [HN.out, numF, if_neg (by omega)] at h
              cases h2 : numS s.data.toList with
              | none => rfl
              | some m => have h3 := numRV_some h2; unfold numRV at h3; rw [← HTl.out, h] at h3; split at h3 <;> cases h3)
            go_wp2_with fail
            go_ret2
            exact ⟨by rw [HZ.out]; exact ⟨_, rfl⟩, HC.out⟩
        · obtain rfl : k = t.size := by omega
          have hz : numF t.data.toList 0 = some acc := by
            rw [← hn, List.drop_of_length_le (show t.data.toList.length ≤ t.size from Nat.le_refl _)]; rfl
          have hr : numRV s.data.toList = some (acc) := by
            unfold numRV
            rw [← HTl.out, if_neg (by exact HL.out), hz, Option.map_some]
            rw [if_neg (by rw [HTl.out]; exact hc45.out)]
          have hin : In64 (acc) := numF_in in64_zero hz
          have q := qq
          have HR := Lib.hid hr; have HC := Lib.hid hC
          clear hn hk hC hz hr
          obtain ⟨nv, hnv⟩ : ∃ x, acc = x := ⟨_, rfl⟩
          have HNV := Lib.hid hnv
          rw [hnv] at hin
          have cI := Lib.hid (fun w hg => itoa_any hin w hg)
          have HG := Lib.hid (hg.chg HC.out)
          clear hnv
          go_wp2_with fail
          rw [HNV.out]
          refine (cI.out _ HG.out).mono ?_
          rintro e w1 ⟨rfl, hC1⟩
          replace HC := Lib.hid (HC.out.trans hC1)
          clear hC1
          by_cases he : itoa nv = s.data.toList
          · have e1 := str2_eq he
            have HF := Lib.hid (show numS s.data.toList = some nv by rw [← he]; exact numS_itoa hin)
            clear he hin
            go_wp2_with fail
            go_ret2
            exact ⟨by rw [HF.out]; rfl, HC.out⟩
          · have e1 := str2_ne he
            have HF := Lib.hid (show numS s.data.toList = none by
              cases h : numS s.data.toList with
              | none => rfl
              | some m =>
                exfalso
                have h1 := numRV_some h
                rw [HR.out, HNV.out] at h1
                injection h1 with h1
                exact he (by rw [h1]; exact (numS_some h).1))
            clear he hin
            go_wp2_with fail
            go_ret2
            exact ⟨by rw [HF.out]; exact ⟨_, rfl⟩, HC.out⟩

theorem ref_number (s : ByteArray) (hs : s.size ≤ 1000000) (w : World) (hg : GW w) : Calls Tryd.prog 44 #[.string s] w fun e w' => NumOut (numS s.data.toList) e ∧ Chg [] w w' := by
  by_cases hc : (digs s.data.toList).length = s.data.toList.length
  · exact ref_number_pos s hs hc w hg
  · exact ref_number_neg s hs hc w hg

end Go.Proofs.YtkcfbacapaonaaaDoor
