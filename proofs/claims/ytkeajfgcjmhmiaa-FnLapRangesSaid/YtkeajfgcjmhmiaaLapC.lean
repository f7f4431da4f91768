/- Rows of rows in the laws: alike, marked, held; LapsOf of both. -/
import Derived.Test.YtkeajfgcjmhmiaaLapB
namespace Go.Proofs.Ytkeajfgcjmhmiaa
open Go.RowKit

def at3 (r : Row3) (j : Nat) : Int := if j = 0 then r.1 else if j = 1 then r.2.1 else r.2.2
theorem row3_at {w : World} {b : Nat} {r : Row3} (h : w.heap[b]? = some (row3 r)) {j : Nat} (hj : j < 3) : Slot w b j (.int .i64 (at3 r j)) := by
  obtain ⟨s0, s1, s2⟩ := row3_cells h
  match j, hj with
  | 0, _ => exact s0
  | 1, _ => exact s1
  | 2, _ => exact s2
def mk3 (k : Int) (j : Nat) (r : Row3) : Row3 := (if 0 < j then k else r.1, if 1 < j then k + 1 else r.2.1, if 2 < j then k + 2 else r.2.2)
theorem row3_mark {w : World} {b j : Nat} {k : Int} {r : Row3} (hj : j < 3) (h : w.heap[b]? = some (row3 (mk3 k j r))) : (w.setCell ⟨b, j, none⟩ (.int .i64 (k + j))).heap[b]? = some (row3 (mk3 k (j + 1) r)) := by
  unfold row3 mk3 at h ⊢
  match j, hj with
  | 0, _ => simp [World.setCell, Array.getElem?_modify, h]
  | 1, _ => simp [World.setCell, Array.getElem?_modify, h]
  | 2, _ => simp [World.setCell, Array.getElem?_modify, h]
def trip (k : Int) : Row3 := (k, k + 1, k + 2)
def marksL (k : Int) (n : Nat) : List Row3 := (List.range n).map fun (i : Nat) => trip (k + 3 * (i : Int))
theorem marksL_len (k : Int) (n : Nat) : (marksL k n).length = n := by unfold marksL; simp
theorem marksL_succ (k : Int) (n : Nat) : marksL k (n + 1) = marksL k n ++ [trip (k + 3 * (n : Int))] := by unfold marksL; rw [List.range_succ, List.map_append]; rfl
theorem marksL_get {k : Int} {n i : Nat} (h : i < n) : (marksL k n)[i]? = some (trip (k + 3 * (i : Int))) := by unfold marksL; simp [h]
theorem marks_set {k : Int} {rs : List Row3} {j : Nat} (hj : j < rs.length) : (marksL k j ++ rs.drop j).set j (trip (k + 3 * (j : Int))) = marksL k (j + 1) ++ rs.drop (j + 1) := by
  rw [marksL_succ, List.append_assoc]
  have h := marksL_len k j
  rw [List.set_append, if_neg (by omega), h, Nat.sub_self, List.drop_eq_getElem_cons hj]
  rfl
/-- A row is written anew. -/
theorem OwL.upd {base : Nat} {w w' : World} {v : Value} {rs : List Row3} (h : OwL base w v rs) {i g cap b : Nat} {r q : Row3} (hr : rs[i]? = some r) (hv : v = .slice (some ⟨g, 0, none⟩) rs.length cap) (hc : w.cell? ⟨g, i, none⟩ = some (.slice (some ⟨b, 0, none⟩) 3 3)) (hb : But b w w') (hq : w'.heap[b]? = some (row3 q)) :
    OwL base w' v (rs.set i q) ∧ Below base w w' := by
  obtain ⟨bs, h1, h2, h3, h4⟩ := h
  have hil : i < rs.length := (List.getElem?_eq_some_iff.1 hr).1
  have hbi : bs[i]? = some bs[i] := List.getElem?_eq_getElem (by omega)
  obtain rfl : bs[i] = b := by
    have := h2.cells (g := g) (by rw [hv]; rfl) i (.slice (some ⟨bs[i], 0, none⟩) 3 3) (by unfold rowsV; rw [List.getElem?_map, hbi]; rfl)
    have hadd : (⟨g, 0, none⟩ : Addr).add i = ⟨g, i, none⟩ := by unfold Addr.add; split <;> simp_all
    rw [hadd, hc] at this
    cases this
    rfl
  obtain ⟨a1, a2⟩ := h4 i _ r hbi hr
  refine ⟨⟨bs, by rw [List.length_set]; exact h1, ?_, h3, fun j c p hj hp => ?_⟩, ⟨hb.os, hb.tape, hb.output, hb.size, fun k hk => hb.block k (by have := heap_lt a2; omega) (by omega)⟩⟩
  · rw [List.length_set]
    refine ⟨h2.1, ?_⟩
    rcases h2.2 with hn | ⟨g', cap', cur, hv', hg, hh, rest⟩
    · exact .inl hn
    · refine .inr ⟨g', cap', cur, hv', hg, ?_, rest⟩
      rw [hb.block g' (heap_lt hh) (by rintro rfl; rw [hh] at a2; unfold row3 at a2; cases a2)]
      exact hh
  · rw [List.getElem?_set] at hp
    by_cases hji : i = j
    · subst hji
      rw [if_pos rfl, if_pos hil] at hp
      rw [hbi] at hj
      cases hj; cases hp
      exact ⟨a1, hq⟩
    · rw [if_neg hji] at hp
      obtain ⟨c1, c2⟩ := h4 j c p hj hp
      refine ⟨c1, ?_⟩
      rw [hb.block c (heap_lt c2) ?_]; exact c2
      rintro rfl
      obtain ⟨hj1, hj2⟩ := List.getElem?_eq_some_iff.1 hj
      have hpw := List.pairwise_iff_getElem.1 h3
      rcases Nat.lt_or_gt_of_ne hji with hlt | hlt
      · exact hpw i j (by omega) hj1 hlt hj2.symm
      · exact hpw j i hj1 (by omega) hlt hj2
/-- Over a change of a block that is none of them. -/
theorem OwL.keepBut {base g : Nat} {w w' : World} {v : Value} {rs : List Row3} (h : OwL base w v rs) (hb : But g w w') (hg : g < base ∨ w.heap.size ≤ g) : OwL base w' v rs := by
  obtain ⟨bs, h1, h2, h3, h4⟩ := h
  refine ⟨bs, h1, ⟨h2.1, ?_⟩, h3, fun i b r hi hr => ?_⟩
  · rcases h2.2 with hn | ⟨g', cap', cur, hv', hg', hh, rest⟩
    · exact .inl hn
    · refine .inr ⟨g', cap', cur, hv', hg', ?_, rest⟩
      rw [hb.block g' (heap_lt hh) (by have := heap_lt hh; omega)]
      exact hh
  · obtain ⟨c1, c2⟩ := h4 i b r hi hr
    refine ⟨c1, ?_⟩
    rw [hb.block b (heap_lt c2) (by have := heap_lt c2; omega)]
    exact c2
theorem heapB {w w' : World} {b : Nat} {o : Obj} (hb : Below w.heap.size w w') (h : w.heap[b]? = some o) : w'.heap[b]? = some o := by rw [hb.block b (heap_lt h)]; exact h

def lapsOfQ (ps : List Pt) : List Row3 × Bool := if okMap ps = true then (lapsQ ps, true) else ([], false)
def RetLB (w : World) (rs : List Row3) (t : Bool) (e : Ending) (w' : World) : Prop := ∃ r, e = .returned (.tuple #[r, .bool t]) ∧ OwL w.heap.size w' r rs ∧ Below w.heap.size w w'
theorem lapsOfQ_len {ps : List Pt} {l : List Row3} {t : Bool} (h : lapsOfQ ps = (l, t)) : l.length ≤ 1048576 := by
  unfold lapsOfQ at h
  split at h
  · rename_i hh
    obtain ⟨rfl, -⟩ := Prod.mk.inj h
    have h2 := lapsQ_len ps
    have h3 := okMap_len hh
    omega
  · obtain ⟨rfl, -⟩ := Prod.mk.inj h; simp

set_option maxHeartbeats 800000 in
theorem iLapsOf_is (ps : List Pt) (v : Value) (l : List Row3) (t : Bool) (hl : lapsOfQ ps = (l, t)) (w : World) (hv : RdP w v ps) (hn : ps.length ≤ 1048576) :
    Calls Try.prog 5 #[v] w (RetLB w l t) := by
  have HV := Lib.hid hv
  rcases hm : okMap ps with _ | _
  · obtain ⟨rfl, rfl⟩ : [] = l ∧ false = t := by unfold lapsOfQ at hl; rw [if_neg (by rw [hm]; simp)] at hl; exact Prod.mk.inj hl
    have HM := Lib.hid hm
    clear hv hl hm
    go_enter Try.func5, Try.ntmps5
    go_wp2_with fail
    refine (isMap_is ps v false _ (HV.out.keep (by go_grown)) hn HM.out).mono ?_
    rintro e w1 ⟨rfl, hb⟩
    go_wp2_with fail
    go_ret2
    exact ⟨_, rfl, OwL.nil _ _, hb⟩
  · obtain ⟨rfl, rfl⟩ : lapsQ ps = l ∧ true = t := by unfold lapsOfQ at hl; rw [if_pos hm] at hl; exact Prod.mk.inj hl
    have HM := Lib.hid hm
    have hlen := okMap_len hm
    clear hv hl hm
    go_enter Try.func5, Try.ntmps5
    go_wp2_with fail
    refine (isMap_is ps v true _ (HV.out.keep (by go_grown)) hn HM.out).mono ?_
    rintro e w1 ⟨rfl, hb⟩
    have hz := hb.size
    go_wp2_with fail
    refine (iLaps_is ps v _ (HV.out.keep hb) (okMap_riseC HM.out) (by omega)).mono ?_
    rintro e w2 ⟨r, rfl, ow, hb2⟩
    have HO := Lib.hid (ow.low (B := w.heap.size) hz)
    clear ow
    go_wp2_with fail
    go_ret2
    exact ⟨_, rfl, HO.out, nextW hb hb2⟩

set_option maxHeartbeats 800000 in
theorem sLapsOf_is (ps : List Pt) (v : Value) (l : List Row3) (t : Bool) (hl : lapsOfQ ps = (l, t)) (w : World) (hv : RdP w v ps) (hn : ps.length ≤ 1048576) :
    Calls Try.prog 6 #[v] w (RetLB w l t) := by
  have HV := Lib.hid hv
  rcases hm : okMap ps with _ | _
  · obtain ⟨rfl, rfl⟩ : [] = l ∧ false = t := by unfold lapsOfQ at hl; rw [if_neg (by rw [hm]; simp)] at hl; exact Prod.mk.inj hl
    have HM := Lib.hid hm
    clear hv hl hm
    go_enter Try.func6, Try.ntmps6
    go_wp2_with fail
    refine (imGood_is ps v false _ (HV.out.keep (by go_grown)) hn HM.out).mono ?_
    rintro e w1 ⟨rfl, hb⟩
    go_wp2_with fail
    go_ret2
    exact ⟨_, rfl, OwL.nil _ _, hb⟩
  · obtain ⟨rfl, rfl⟩ : lapsQ ps = l ∧ true = t := by unfold lapsOfQ at hl; rw [if_pos hm] at hl; exact Prod.mk.inj hl
    have HM := Lib.hid hm
    have hlen := okMap_len hm
    clear hv hl hm
    go_enter Try.func6, Try.ntmps6
    go_wp2_with fail
    refine (imGood_is ps v true _ (HV.out.keep (by go_grown)) hn HM.out).mono ?_
    rintro e w1 ⟨rfl, hb⟩
    have hz := hb.size
    go_wp2_with fail
    refine (sLaps_is ps v _ (HV.out.keep hb) (okMap_riseC HM.out) (by omega)).mono ?_
    rintro e w2 ⟨r, rfl, ow, hb2⟩
    have HO := Lib.hid (ow.low (B := w.heap.size) hz)
    clear ow
    go_wp2_with fail
    go_ret2
    exact ⟨_, rfl, HO.out, nextW hb hb2⟩

end Go.Proofs.Ytkeajfgcjmhmiaa
