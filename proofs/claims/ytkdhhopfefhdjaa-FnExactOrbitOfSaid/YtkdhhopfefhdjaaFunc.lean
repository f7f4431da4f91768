/- slices.IndexFunc and slices.ContainsFunc at points: the first point for which a function says yes. -/
import Derived.Test.YtkdhhopfefhdjaaBase
import Derived.Test.YtkdhhopfefhdjaaData
namespace Go.Proofs.Ytkdhhopfefhdjaa
open Go.RowKit

/-- What a function value says of a point, in every world that keeps what was there. -/
def Says (F : FuncId) (cap : Array Value) (b : Pt → Bool) (ps : List Pt) (w : World) : Prop :=
  ∀ (W : World) (p : Pt), Below w.heap.size w W → p ∈ ps → Calls Try.prog F (#[.agg #[.int .i64 p.1.1, .int .i64 p.1.2, .int .i64 p.2.1, .int .i64 p.2.2]] ++ cap) W fun e W' => e = .returned (.bool (b p)) ∧ Below W.heap.size W W'

/-- The place of the first point for which b holds, or -1. -/
def idxB (b : Pt → Bool) (ps : List Pt) : Int := match ps.findIdx? b with | some i => i | none => -1

def NoneB (b : Pt → Bool) (ps : List Pt) (k : Nat) : Prop := ∀ i p, i < k → ps[i]? = some p → b p = false
theorem NoneB.more {b : Pt → Bool} {ps : List Pt} {k : Nat} {p : Pt} (h : NoneB b ps k) (hp : ps[k]? = some p) (hb : b p = false) : NoneB b ps (k + 1) := by
  intro i q hi hq
  by_cases e : i = k
  · subst e; rw [hp] at hq; cases hq; exact hb
  · exact h i q (by omega) hq
theorem NoneB.found {b : Pt → Bool} {ps : List Pt} {k : Nat} {p : Pt} (h : NoneB b ps k) (hp : ps[k]? = some p) (hb : b p = true) : idxB b ps = k := by
  have hk : k < ps.length := (List.getElem?_eq_some_iff.1 hp).1
  have : ps.findIdx? b = some k := by
    rw [List.findIdx?_eq_some_iff_getElem]
    refine ⟨hk, ?_, fun j hj => ?_⟩
    · have := List.getElem?_eq_getElem hk; rw [hp] at this; cases this; exact hb
    · have h2 : j < ps.length := by omega
      have := h j ps[j] hj (List.getElem?_eq_getElem h2)
      simp [this]
  unfold idxB; rw [this]
theorem NoneB.none {b : Pt → Bool} {ps : List Pt} (h : NoneB b ps ps.length) : idxB b ps = -1 := by
  have : ps.findIdx? b = Option.none := by
    rw [List.findIdx?_eq_none_iff]
    intro p hp
    obtain ⟨i, hi, rfl⟩ := List.getElem_of_mem hp
    exact h i _ hi (List.getElem?_eq_getElem hi)
  unfold idxB; rw [this]
theorem idxB_any (b : Pt → Bool) (ps : List Pt) : decide (0 ≤ idxB b ps) = ps.any b := by
  unfold idxB
  cases h : ps.findIdx? b with
  | none =>
    rw [List.findIdx?_eq_none_iff] at h
    have : ps.any b = false := by rw [List.any_eq_false]; intro p hp; rw [h p hp]; decide
    rw [this]; decide
  | some i =>
    rw [List.findIdx?_eq_some_iff_getElem] at h
    obtain ⟨hi, hb, _⟩ := h
    have : ps.any b = true := List.any_eq_true.2 ⟨_, List.getElem_mem hi, hb⟩
    rw [this]; simp

def RelI (b : Pt → Bool) (ps : List Pt) (w : World) (i : Value) (wr : World) : Prop := ∃ k : Nat, k ≤ ps.length ∧ i = .int .i64 k ∧ NoneB b ps k ∧ Below w.heap.size w wr

set_option maxHeartbeats 400000 in
theorem indexIsMap (b : Pt → Bool) (ps : List Pt) (v : Value) (w : World) (hv : RdP w v ps) (hF : Says 127 #[] b ps w) :
    Calls Try.prog 158 #[v, .func (.func 127) #[] #[]] w fun e w' => e = .returned (.int .i64 (idxB b ps)) ∧ Below w.heap.size w w' := by
  obtain ⟨A, c, rfl, hl, hm, hcell⟩ := hv
  unfold maxLen at hm
  have HC := Lib.hid hcell
  have HF := Lib.hid hF
  clear hcell hF
  go_enter Try.func158, Try.ntmps158
  go_wp2_with fail
  go_loopw [8] (fun i wr => RelI b ps w i wr) (fun i _ => ps.length - (intOf i).toNat)
  case atStart => exact ⟨0, Nat.zero_le _, rfl, (fun i q h => by omega), Below.refl _ _⟩
  case round =>
    obtain ⟨k, hk, rfl, hnone, hb⟩ := hrel
    have HN := Lib.hid hnone
    clear hnone
    by_cases hlt : k < ps.length
    · obtain ⟨g, o, rfl, hg, hc⟩ := HC.out (by intro h; rw [h] at hlt; simp at hlt)
      have hq := hc k ps[k] (List.getElem?_eq_getElem hlt)
      have hqk := List.getElem?_eq_getElem hlt
      have hmem := List.getElem_mem hlt
      generalize ps[k] = q at *
      obtain ⟨⟨a1, a2⟩, a3, a4⟩ := q
      obtain ⟨c0, c1, c2, c3⟩ := hq
      rw [← hb.cell (p := ⟨g, _, none⟩) hg] at c0 c1 c2 c3
      clear hc HC
      have HQ := Lib.hid hqk
      have HM := Lib.hid hmem
      clear hqk hmem
      rcases hbb : b ((a1, a2), a3, a4) with _ | _
      all_goals
        have HB := Lib.hid hbb
        clear hbb
        go_wp2_with fail
        refine (HF.out _ _ hb HM.out).mono ?_
        rintro e w1 ⟨he, hb1⟩
        rw [HB.out] at he
        subst he
        have hB := nextW hb hb1
        clear hb1 c0 c1 c2 c3
        go_wp2_with fail
      · go_roundw
        case rel => exact ⟨k + 1, by omega, by go_num, NoneB.more HN.out HQ.out HB.out, hB⟩
        case measure => simp [intOf]; omega
      · have HI := Lib.hid (NoneB.found HN.out HQ.out HB.out)
        go_ret
        exact ⟨ret_int HI.out.symm, hB⟩
    · obtain rfl : k = ps.length := by omega
      have HI := Lib.hid HN.out.none
      go_wp2_with fail
      go_ret
      exact ⟨ret_int HI.out.symm, hb⟩

theorem containsIsMap (b : Pt → Bool) (ps : List Pt) (v : Value) (w : World) (hv : RdP w v ps) (hF : Says 127 #[] b ps w) :
    Calls Try.prog 126 #[v, .func (.func 127) #[] #[]] w fun e w' => e = .returned (.bool (ps.any b)) ∧ Below w.heap.size w w' := by
  have HV := Lib.hid hv
  have HF := Lib.hid hF
  have HI := Lib.hid (idxB_any b ps)
  clear hv hF
  go_enter Try.func126, Try.ntmps126
  go_wp2_with fail
  refine (indexIsMap b ps v _ HV.out HF.out).mono ?_
  rintro e w1 ⟨rfl, hb⟩
  generalize idxB b ps = x at *
  go_wp2_with fail
  go_ret
  exact ⟨ret_bool HI.out, hb⟩

set_option maxHeartbeats 400000 in
theorem indexMade (b : Pt → Bool) (ps : List Pt) (v : Value) (w : World) (hv : RdP w v ps) (hF : Says 170 #[] b ps w) :
    Calls Try.prog 158 #[v, .func (.func 170) #[] #[]] w fun e w' => e = .returned (.int .i64 (idxB b ps)) ∧ Below w.heap.size w w' := by
  obtain ⟨A, c, rfl, hl, hm, hcell⟩ := hv
  unfold maxLen at hm
  have HC := Lib.hid hcell
  have HF := Lib.hid hF
  clear hcell hF
  go_enter Try.func158, Try.ntmps158
  go_wp2_with fail
  go_loopw [8] (fun i wr => RelI b ps w i wr) (fun i _ => ps.length - (intOf i).toNat)
  case atStart => exact ⟨0, Nat.zero_le _, rfl, (fun i q h => by omega), Below.refl _ _⟩
  case round =>
    obtain ⟨k, hk, rfl, hnone, hb⟩ := hrel
    have HN := Lib.hid hnone
    clear hnone
    by_cases hlt : k < ps.length
    · obtain ⟨g, o, rfl, hg, hc⟩ := HC.out (by intro h; rw [h] at hlt; simp at hlt)
      have hq := hc k ps[k] (List.getElem?_eq_getElem hlt)
      have hqk := List.getElem?_eq_getElem hlt
      have hmem := List.getElem_mem hlt
      generalize ps[k] = q at *
      obtain ⟨⟨a1, a2⟩, a3, a4⟩ := q
      obtain ⟨c0, c1, c2, c3⟩ := hq
      rw [← hb.cell (p := ⟨g, _, none⟩) hg] at c0 c1 c2 c3
      clear hc HC
      have HQ := Lib.hid hqk
      have HM := Lib.hid hmem
      clear hqk hmem
      rcases hbb : b ((a1, a2), a3, a4) with _ | _
      all_goals
        have HB := Lib.hid hbb
        clear hbb
        go_wp2_with fail
        refine (HF.out _ _ hb HM.out).mono ?_
        rintro e w1 ⟨he, hb1⟩
        rw [HB.out] at he
        subst he
        have hB := nextW hb hb1
        clear hb1 c0 c1 c2 c3
        go_wp2_with fail
      · go_roundw
        case rel => exact ⟨k + 1, by omega, by go_num, NoneB.more HN.out HQ.out HB.out, hB⟩
        case measure => simp [intOf]; omega
      · have HI := Lib.hid (NoneB.found HN.out HQ.out HB.out)
        go_ret
        exact ⟨ret_int HI.out.symm, hB⟩
    · obtain rfl : k = ps.length := by omega
      have HI := Lib.hid HN.out.none
      go_wp2_with fail
      go_ret
      exact ⟨ret_int HI.out.symm, hb⟩

theorem containsMade (b : Pt → Bool) (ps : List Pt) (v : Value) (w : World) (hv : RdP w v ps) (hF : Says 170 #[] b ps w) :
    Calls Try.prog 126 #[v, .func (.func 170) #[] #[]] w fun e w' => e = .returned (.bool (ps.any b)) ∧ Below w.heap.size w w' := by
  have HV := Lib.hid hv
  have HF := Lib.hid hF
  have HI := Lib.hid (idxB_any b ps)
  clear hv hF
  go_enter Try.func126, Try.ntmps126
  go_wp2_with fail
  refine (indexMade b ps v _ HV.out HF.out).mono ?_
  rintro e w1 ⟨rfl, hb⟩
  generalize idxB b ps = x at *
  go_wp2_with fail
  go_ret
  exact ⟨ret_bool HI.out, hb⟩

set_option maxHeartbeats 400000 in
theorem indexPiece (b : Pt → Bool) (ps : List Pt) (v : Value) (gx : Nat) (w : World) (hv : RdP w v ps) (hF : Says 163 #[.pointer (some ⟨gx, 0, none⟩)] b ps w) :
    Calls Try.prog 158 #[v, .func (.func 163) #[] #[.pointer (some ⟨gx, 0, none⟩)]] w fun e w' => e = .returned (.int .i64 (idxB b ps)) ∧ Below w.heap.size w w' := by
  obtain ⟨A, c, rfl, hl, hm, hcell⟩ := hv
  unfold maxLen at hm
  have HC := Lib.hid hcell
  have HF := Lib.hid hF
  clear hcell hF
  go_enter Try.func158, Try.ntmps158
  go_wp2_with fail
  go_loopw [8] (fun i wr => RelI b ps w i wr) (fun i _ => ps.length - (intOf i).toNat)
  case atStart => exact ⟨0, Nat.zero_le _, rfl, (fun i q h => by omega), Below.refl _ _⟩
  case round =>
    obtain ⟨k, hk, rfl, hnone, hb⟩ := hrel
    have HN := Lib.hid hnone
    clear hnone
    by_cases hlt : k < ps.length
    · obtain ⟨g, o, rfl, hg, hc⟩ := HC.out (by intro h; rw [h] at hlt; simp at hlt)
      have hq := hc k ps[k] (List.getElem?_eq_getElem hlt)
      have hqk := List.getElem?_eq_getElem hlt
      have hmem := List.getElem_mem hlt
      generalize ps[k] = q at *
      obtain ⟨⟨a1, a2⟩, a3, a4⟩ := q
      obtain ⟨c0, c1, c2, c3⟩ := hq
      rw [← hb.cell (p := ⟨g, _, none⟩) hg] at c0 c1 c2 c3
      clear hc HC
      have HQ := Lib.hid hqk
      have HM := Lib.hid hmem
      clear hqk hmem
      rcases hbb : b ((a1, a2), a3, a4) with _ | _
      all_goals
        have HB := Lib.hid hbb
        clear hbb
        go_wp2_with fail
        refine (HF.out _ _ hb HM.out).mono ?_
        rintro e w1 ⟨he, hb1⟩
        rw [HB.out] at he
        subst he
        have hB := nextW hb hb1
        clear hb1 c0 c1 c2 c3
        go_wp2_with fail
      · go_roundw
        case rel => exact ⟨k + 1, by omega, by go_num, NoneB.more HN.out HQ.out HB.out, hB⟩
        case measure => simp [intOf]; omega
      · have HI := Lib.hid (NoneB.found HN.out HQ.out HB.out)
        go_ret
        exact ⟨ret_int HI.out.symm, hB⟩
    · obtain rfl : k = ps.length := by omega
      have HI := Lib.hid HN.out.none
      go_wp2_with fail
      go_ret
      exact ⟨ret_int HI.out.symm, hb⟩

end Go.Proofs.Ytkdhhopfefhdjaa
