/- Rows of rows in the laws: alike, marked, held; LapsOf of both. -/
import Derived.Test.YtkdhhopfefhdjaaLapB
namespace Go.Proofs.Ytkdhhopfefhdjaa
open Go.RowKit

def at3 (r : Row3) (j : Nat) : Int := if j = 0 then r.1 else if j = 1 then r.2.1 else r.2.2
theorem row3_at {w : World} {b : Nat} {r : Row3} (h : w.heap[b]? = some (row3 r)) {j : Nat} (hj : j < 3) : Slot w b j (.int .i64 (at3 r j)) := by
  obtain ⟨s0, s1, s2⟩ := row3_cells h
  match j, hj with
  | 0, _ => exact s0
  | 1, _ => exact s1
  | 2, _ => exact s2
def mk3 (k : Int) (j : Nat) (r : Row3) : Row3 := (if 0 < j then k else r.1, if 1 < j then k + 1 else r.2.1, if 2 < j then k + 2 else r.2.2)
theorem row3_mark {w : World} {b j : Nat} {k : Int} {r : Row3} (hj : j < 3) (h : w.heap[b]? = some (row3 (mk3 k j r))) : (w.setCell ⟨b, j, none⟩ (.int .i64 (k + j))).heap[b]? = some (row3 (mk3 k (j + 1) r)) := by
  unfold row3 mk3 at h ⊢
  match j, hj with
  | 0, _ => simp [World.setCell, Array.getElem?_modify, h]
  | 1, _ => simp [World.setCell, Array.getElem?_modify, h]
  | 2, _ => simp [World.setCell, Array.getElem?_modify, h]
def trip (k : Int) : Row3 := (k, k + 1, k + 2)
def marksL (k : Int) (n : Nat) : List Row3 := (List.range n).map fun (i : Nat) => trip (k + 3 * (i : Int))
theorem marksL_len (k : Int) (n : Nat) : (marksL k n).length = n := by unfold marksL; simp
theorem marksL_succ (k : Int) (n : Nat) : marksL k (n + 1) = marksL k n ++ [trip (k + 3 * (n : Int))] := by unfold marksL; rw [List.range_succ, List.map_append]; rfl
theorem marksL_get {k : Int} {n i : Nat} (h : i < n) : (marksL k n)[i]? = some (trip (k + 3 * (i : Int))) := by unfold marksL; simp [h]
theorem marks_set {k : Int} {rs : List Row3} {j : Nat} (hj : j < rs.length) : (marksL k j ++ rs.drop j).set j (trip (k + 3 * (j : Int))) = marksL k (j + 1) ++ rs.drop (j + 1) := by
  rw [marksL_succ, List.append_assoc]
  have h := marksL_len k j
  rw [List.set_append, if_neg (by omega), h, Nat.sub_self, List.drop_eq_getElem_cons hj]
  rfl
/-- A row is written anew. -/
theorem OwL.upd {base : Nat} {w w' : World} {v : Value} {rs : List Row3} (h : OwL base w v rs) {i g cap b : Nat} {r q : Row3} (hr : rs[i]? = some r) (hv : v = .slice (some ⟨g, 0, none⟩) rs.length cap) (hc : w.cell? ⟨g, i, none⟩ = some (.slice (some ⟨b, 0, none⟩) 3 3)) (hb : But b w w') (hq : w'.heap[b]? = some (row3 q)) :
    OwL base w' v (rs.set i q) ∧ Below base w w' := by
  obtain ⟨bs, h1, h2, h3, h4⟩ := h
  have hil : i < rs.length := (List.getElem?_eq_some_iff.1 hr).1
  have hbi : bs[i]? = some bs[i] := List.getElem?_eq_getElem (by omega)
  obtain rfl : bs[i] = b := by
    have := h2.cells (g := g) (by rw [hv]; rfl) i (.slice (some ⟨bs[i], 0, none⟩) 3 3) (by unfold rowsV; rw [List.getElem?_map, hbi]; rfl)
    have hadd : (⟨g, 0, none⟩ : Addr).add i = ⟨g, i, none⟩ := by unfold Addr.add; split <;> simp_all
    rw [hadd, hc] at this
    cases this
    rfl
  obtain ⟨a1, a2⟩ := h4 i _ r hbi hr
  refine ⟨⟨bs, by rw [List.length_set]; exact h1, ?_, h3, fun j c p hj hp => ?_⟩, ⟨hb.os, hb.tape, hb.output, hb.size, fun k hk => hb.block k (by have := heap_lt a2; omega) (by omega)⟩⟩
  · rw [List.length_set]
    refine ⟨h2.1, ?_⟩
    rcases h2.2 with hn | ⟨g', cap', cur, hv', hg, hh, rest⟩
    · exact .inl hn
    · refine .inr ⟨g', cap', cur, hv', hg, ?_, rest⟩
      rw [hb.block g' (heap_lt hh) (by rintro rfl; rw [hh] at a2; unfold row3 at a2; cases a2)]
      exact hh
  · rw [List.getElem?_set] at hp
    by_cases hji : i = j
    · subst hji
      rw [if_pos rfl, if_pos hil] at hp
      rw [hbi] at hj
      cases hj; cases hp
      exact ⟨a1, hq⟩
    · rw [if_neg hji] at hp
      obtain ⟨c1, c2⟩ := h4 j c p hj hp
      refine ⟨c1, ?_⟩
      rw [hb.block c (heap_lt c2) ?_]; exact c2
      rintro rfl
      obtain ⟨hj1, hj2⟩ := List.getElem?_eq_some_iff.1 hj
      have hpw := List.pairwise_iff_getElem.1 h3
      rcases Nat.lt_or_gt_of_ne hji with hlt | hlt
      · exact hpw i j (by omega) hj1 hlt hj2.symm
      · exact hpw j i hj1 (by omega) hlt hj2
/-- Over a change of a block that is none of them. -/
theorem OwL.keepBut {base g : Nat} {w w' : World} {v : Value} {rs : List Row3} (h : OwL base w v rs) (hb : But g w w') (hg : g < base ∨ w.heap.size ≤ g) : OwL base w' v rs := by
  obtain ⟨bs, h1, h2, h3, h4⟩ := h
  refine ⟨bs, h1, ⟨h2.1, ?_⟩, h3, fun i b r hi hr => ?_⟩
  · rcases h2.2 with hn | ⟨g', cap', cur, hv', hg', hh, rest⟩
    · exact .inl hn
    · refine .inr ⟨g', cap', cur, hv', hg', ?_, rest⟩
      rw [hb.block g' (heap_lt hh) (by have := heap_lt hh; omega)]
      exact hh
  · obtain ⟨c1, c2⟩ := h4 i b r hi hr
    refine ⟨c1, ?_⟩
    rw [hb.block b (heap_lt c2) (by have := heap_lt c2; omega)]
    exact c2
theorem heapB {w w' : World} {b : Nat} {o : Obj} (hb : Below w.heap.size w w') (h : w.heap[b]? = some o) : w'.heap[b]? = some o := by rw [hb.block b (heap_lt h)]; exact h

set_option maxHeartbeats 800000 in
theorem eqIntS_same (b c : Nat) (r : Row3) (w : World) (hb : w.heap[b]? = some (row3 r)) (hc : w.heap[c]? = some (row3 r)) :
    Calls Try.prog 105 #[.slice (some ⟨b, 0, none⟩) 3 3, .slice (some ⟨c, 0, none⟩) 3 3] w fun e w' => e = .returned (.bool true) ∧ Below w.heap.size w w' := by
  have HB := Lib.hid hb
  have HC := Lib.hid hc
  clear hb hc
  go_enter Try.func105, Try.ntmps105
  go_wp2_with fail
  go_loopw [5] (fun i wr => EqTo 3 w i wr) (fun i _ => 3 - (intOf i).toNat)
  case atStart => exact ⟨0, Nat.zero_le _, rfl, Below.refl _ _⟩
  case round =>
    obtain ⟨k, hk, rfl, hx⟩ := hrel
    by_cases hlt : k < 3
    · have c0 := (row3_at (heapB hx HB.out) hlt).1
      have d0 := (row3_at (heapB hx HC.out) hlt).1
      generalize at3 r k = x at *
      have b0 : (0 : Int) ≤ (k : Int) := by omega
      have b1 : (k : Int) < 3 := by omega
      go_wp2_with fail
      refine wp_region_below (by kernel_rfl) (by kernel_rfl) ?_
      iterate 9 (first
        | (refine stepS rfl ?_; simp only [Act.put, List.setIfInBounds_toArray, List.set_cons_zero, List.set_cons_succ])
        | (refine stepV (v := ?_) rfl (fun W hW => ?_) ?_
           rotate_left
           focus
             have qc0 := cellB hW.out c0
             have qc1 := cellB hW.out d0
             go_simp
             try with_reducible rfl
             done
           simp only [Act.put, List.setIfInBounds_toArray, List.set_cons_zero, List.set_cons_succ]))
      refine stepN ?_
      intro w2 hw2
      have hB := nextW hx hw2.out
      clear hw2 c0 d0
      go_wp2_with fail
      go_roundw
      case rel => exact ⟨k + 1, by omega, by go_num, hB⟩
      case measure => simp [intOf]; omega
    · obtain rfl : k = 3 := by omega
      go_wp2_with fail
      go_ret
      exact ⟨rfl, hx⟩

set_option maxHeartbeats 1600000 in
theorem eqIntSS_same (b1 b2 : Nat) (v u : Value) (rs : List Row3) (w : World) (hv : OwL b1 w v rs) (hu : OwL b2 w u rs) :
    Calls Try.prog 58 #[v, u] w fun e w' => e = .returned (.bool true) ∧ Below w.heap.size w w' := by
  obtain ⟨A, c, rfl, hl, hm⟩ := hv.shape
  obtain ⟨A', c', rfl, hl', hm'⟩ := hu.shape
  unfold maxLen at hm hm'
  have HV := Lib.hid hv
  have HU := Lib.hid hu
  clear hv hu
  go_enter Try.func58, Try.ntmps58
  go_wp2_with fail
  go_loopw [5] (fun i wr => EqTo rs.length w i wr) (fun i _ => rs.length - (intOf i).toNat)
  case atStart => exact ⟨0, Nat.zero_le _, rfl, Below.refl _ _⟩
  case round =>
    obtain ⟨k, hk, rfl, hb⟩ := hrel
    by_cases hlt : k < rs.length
    · have hr := List.getElem?_eq_getElem hlt
      obtain ⟨g, cp, bo, he, -, -, -, -, oc, h1⟩ := HV.out.get hr
      obtain ⟨g', cp', bo', he', -, -, -, -, oc', h2⟩ := HU.out.get hr
      simp only [Value.slice.injEq] at he he'
      obtain ⟨rfl, -, -⟩ := he
      obtain ⟨rfl, -, -⟩ := he'
      replace oc := cellB hb oc
      replace oc' := cellB hb oc'
      have H1 := Lib.hid (heapB hb h1)
      have H2 := Lib.hid (heapB hb h2)
      generalize rs[k] = r at *
      clear h1 h2 hr
      have b0 : (0 : Int) ≤ (k : Int) := by omega
      have b1' : (k : Int) < (rs.length : Int) := by omega
      go_wp2_with fail
      refine wp_region_below (by kernel_rfl) (by kernel_rfl) ?_
      iterate 10 (first
        | (refine stepS rfl ?_; simp only [Act.put, List.setIfInBounds_toArray, List.set_cons_zero, List.set_cons_succ])
        | (refine stepV (v := ?_) rfl (fun W hW => ?_) ?_
           rotate_left
           focus
             have qc0 := cellB hW.out oc
             have qc1 := cellB hW.out oc'
             go_simp
             try with_reducible rfl
             done
           simp only [Act.put, List.setIfInBounds_toArray, List.set_cons_zero, List.set_cons_succ])
        | (refine stepC rfl (fun W hW => ?_) (fun W hW => callB hW (eqIntS_same bo bo' r _ (heapB hW.out H1.out) (heapB hW.out H2.out))) ?_
           focus
             go_simp
             try with_reducible rfl
             done
           simp only [Act.put, List.setIfInBounds_toArray, List.set_cons_zero, List.set_cons_succ]))
      refine stepN ?_
      intro w2 hw2
      have hB := nextW hb hw2.out
      clear hw2 oc oc'
      go_wp2_with fail
      go_roundw
      case rel => exact ⟨k + 1, by omega, by go_num, hB⟩
      case measure => simp [intOf]; omega
    · obtain rfl : k = rs.length := by omega
      go_wp2_with fail
      go_ret
      exact ⟨rfl, hb⟩

set_option maxHeartbeats 800000 in
theorem markIntS_is (b : Nat) (r : Row3) (k : Int) (w : World) (h : w.heap[b]? = some (row3 r)) (hk : 0 ≤ k ∧ k ≤ 2000000000) :
    Calls Try.prog 106 #[.slice (some ⟨b, 0, none⟩) 3 3, .int .i64 k] w fun e w' => e = .returned (.int .i64 (k + 3)) ∧ w'.heap[b]? = some (row3 (trip k)) ∧ But b w w' := by
  have H0 := Lib.hid (show w.heap[b]? = some (row3 (mk3 k 0 r)) from h)
  clear h
  go_enter Try.func106, Try.ntmps106
  go_wp2_with fail
  go_loopw [1, 5] (fun q i wr => ∃ j : Nat, j ≤ 3 ∧ i = .int .i64 j ∧ q = .int .i64 (k + j) ∧ wr.heap[b]? = some (row3 (mk3 k j r)) ∧ But b w wr) (fun _ i _ => 3 - (intOf i).toNat)
  case atStart => exact ⟨0, Nat.zero_le _, rfl, by simp, H0.out, But.refl _ _⟩
  case round =>
    obtain ⟨j, hj, rfl, rfl, hrow, hbut⟩ := hrel
    by_cases hlt : j < 3
    · obtain ⟨c0, f0⟩ := row3_at hrow hlt
      generalize hx : at3 (mk3 k j r) j = x at *
      have HR := Lib.hid (And.intro hrow hbut)
      have b0 : (0 : Int) ≤ (j : Int) := by omega
      have b1 : (j : Int) < 3 := by omega
      have v1 : IntKind.i64.wrap (k + (j : Int) + 1) = k + (j : Int) + 1 := IntWalk.i64_in _ (by omega)
      clear hrow hbut hx
      go_wp2_with fail
      go_roundw
      case rel => exact ⟨j + 1, by omega, by go_num, by congr 1; omega, row3_mark hlt HR.out.1, HR.out.2.setCell _⟩
      case measure => simp [intOf]; omega
    · obtain rfl : j = 3 := by omega
      have HR := Lib.hid (And.intro hrow hbut)
      clear hrow hbut
      go_wp2_with fail
      go_ret
      exact ⟨rfl, HR.out.1, HR.out.2⟩

set_option maxHeartbeats 1600000 in
theorem markIntSS_is (base : Nat) (v : Value) (rs : List Row3) (k : Int) (w : World) (h : OwL base w v rs) (hk : 0 ≤ k ∧ k ≤ 1000000000) (hn : rs.length ≤ 1048576) :
    Calls Try.prog 59 #[v, .int .i64 k] w fun e w' => e = .returned (.int .i64 (k + 3 * (rs.length : Int))) ∧ OwL base w' v (marksL k rs.length) ∧ Below base w w' := by
  obtain ⟨A, c, rfl, hl, hm⟩ := h.shape
  unfold maxLen at hm
  have HV := Lib.hid h
  clear h
  go_enter Try.func59, Try.ntmps59
  go_wp2_with fail
  go_loopw [1, 5] (fun q i wr => ∃ j : Nat, j ≤ rs.length ∧ i = .int .i64 j ∧ q = .int .i64 (k + 3 * j) ∧ OwL base wr (.slice A rs.length c) (marksL k j ++ rs.drop j) ∧ Below base w wr) (fun _ i _ => rs.length - (intOf i).toNat)
  case atStart => exact ⟨0, Nat.zero_le _, rfl, by simp, by simpa [marksL] using HV.out, Below.refl _ _⟩
  case round =>
    obtain ⟨j, hj, rfl, rfl, hrow, hb⟩ := hrel
    by_cases hlt : j < rs.length
    · have hlen : (marksL k j ++ rs.drop j).length = rs.length := by rw [List.length_append, marksL_len, List.length_drop]; omega
      have hr : (marksL k j ++ rs.drop j)[j]? = some rs[j] := by rw [List.getElem?_append, if_neg (by rw [marksL_len]; omega), marksL_len, Nat.sub_self, List.drop_eq_getElem_cons hlt]; rfl
      obtain ⟨g, cp, bo, he, -, -, -, -, oc, h1⟩ := hrow.get hr
      simp only [Value.slice.injEq] at he
      obtain ⟨rfl, -, -⟩ := he
      have HR := Lib.hid (And.intro hrow (And.intro hr (And.intro oc hlen)))
      have H1 := Lib.hid h1
      have b0 : (0 : Int) ≤ (j : Int) := by omega
      have b1 : (j : Int) < (rs.length : Int) := by omega
      clear hrow hr h1 hlen
      go_wp2_with fail
      refine (markIntS_is bo _ (k + 3 * (j : Int)) _ H1.out (by omega)).mono ?_
      rintro e w2 ⟨rfl, hq, hbut⟩
      obtain ⟨p1, p2⟩ := HR.out.1.upd HR.out.2.1 (by rw [HR.out.2.2.2]) HR.out.2.2.1 hbut hq
      rw [marks_set hlt] at p1
      have HP := Lib.hid p1
      have hB := Below.trans hb p2
      clear oc hq hbut p1 p2
      go_wp2_with fail
      go_roundw
      case rel => exact ⟨j + 1, by omega, by go_num, by congr 1; omega, HP.out, hB⟩
      case measure => simp [intOf]; omega
    · obtain rfl : j = rs.length := by omega
      have HP := Lib.hid (show OwL base wr (.slice A rs.length c) (marksL k rs.length) by simpa using hrow)
      clear hrow
      go_wp2_with fail
      go_ret
      exact ⟨rfl, HP.out, hb⟩

set_option maxHeartbeats 800000 in
theorem heldIntS_is (b : Nat) (k : Int) (w : World) (h : w.heap[b]? = some (row3 (trip k))) (hk : 0 ≤ k ∧ k ≤ 2000000000) :
    Calls Try.prog 107 #[.slice (some ⟨b, 0, none⟩) 3 3, .int .i64 k] w fun e w' => e = .returned (.int .i64 (k + 3)) ∧ Below w.heap.size w w' := by
  have H0 := Lib.hid h
  clear h
  go_enter Try.func107, Try.ntmps107
  go_wp2_with fail
  go_loopw [1, 5] (fun q i wr => ∃ j : Nat, j ≤ 3 ∧ i = .int .i64 j ∧ q = .int .i64 (k + j) ∧ Below w.heap.size w wr) (fun _ i _ => 3 - (intOf i).toNat)
  case atStart => exact ⟨0, Nat.zero_le _, rfl, by simp, Below.refl _ _⟩
  case round =>
    obtain ⟨j, hj, rfl, rfl, hb⟩ := hrel
    by_cases hlt : j < 3
    · have c0 := (row3_at (heapB hb H0.out) hlt).1
      have hx : at3 (trip k) j = k + j := by unfold at3 trip; match j, hlt with | 0, _ => simp | 1, _ => simp | 2, _ => simp
      rw [hx] at c0
      have b0 : (0 : Int) ≤ (j : Int) := by omega
      have b1 : (j : Int) < 3 := by omega
      have v1 : IntKind.i64.wrap (k + (j : Int) + 1) = k + (j : Int) + 1 := IntWalk.i64_in _ (by omega)
      clear hx
      go_wp2_with fail
      go_roundw
      case rel => exact ⟨j + 1, by omega, by go_num, by congr 1; omega, by go_grown⟩
      case measure => simp [intOf]; omega
    · obtain rfl : j = 3 := by omega
      go_wp2_with fail
      go_ret
      exact ⟨rfl, hb⟩

set_option maxHeartbeats 1600000 in
theorem heldIntSS_is (base : Nat) (v : Value) (n : Nat) (k : Int) (w : World) (h : OwL base w v (marksL k n)) (hk : 0 ≤ k ∧ k ≤ 1000000000) (hn : n ≤ 1048576) :
    Calls Try.prog 60 #[v, .int .i64 k] w fun e w' => e = .returned (.int .i64 (k + 3 * (n : Int))) ∧ Below w.heap.size w w' := by
  obtain ⟨A, c, rfl, hl, hm⟩ := h.shape
  unfold maxLen at hm
  have HV := Lib.hid h
  rw [marksL_len] at hl ⊢
  clear h
  go_enter Try.func60, Try.ntmps60
  go_wp2_with fail
  go_loopw [1, 5] (fun q i wr => ∃ j : Nat, j ≤ n ∧ i = .int .i64 j ∧ q = .int .i64 (k + 3 * j) ∧ Below w.heap.size w wr) (fun _ i _ => n - (intOf i).toNat)
  case atStart => exact ⟨0, Nat.zero_le _, rfl, by simp, Below.refl _ _⟩
  case round =>
    obtain ⟨j, hj, rfl, rfl, hb⟩ := hrel
    by_cases hlt : j < n
    · obtain ⟨g, cp, bo, he, -, -, -, -, oc, h1⟩ := HV.out.get (marksL_get hlt)
      simp only [Value.slice.injEq] at he
      obtain ⟨rfl, -, -⟩ := he
      replace oc := cellB hb oc
      have H1 := Lib.hid (heapB hb h1)
      have b0 : (0 : Int) ≤ (j : Int) := by omega
      have b1 : (j : Int) < (n : Int) := by omega
      have hge : (0 : Int) ≤ k + 3 * (j : Int) + 3 := by omega
      clear h1
      go_wp2_with fail
      refine (heldIntS_is bo (k + 3 * (j : Int)) _ H1.out (by omega)).mono ?_
      rintro e w2 ⟨rfl, hx⟩
      have hB := nextW hb (nextX (by go_grown) hx)
      clear oc hx
      go_wp2_with fail
      go_roundw
      case rel => exact ⟨j + 1, by omega, by go_num, by congr 1; omega, hB⟩
      case measure => simp [intOf]; omega
    · obtain rfl : j = n := by omega
      go_wp2_with fail
      go_ret
      exact ⟨rfl, hb⟩

def lapsOfQ (ps : List Pt) : List Row3 × Bool := if okMap ps = true then (lapsQ ps, true) else ([], false)
def RetLB (w : World) (rs : List Row3) (t : Bool) (e : Ending) (w' : World) : Prop := ∃ r, e = .returned (.tuple #[r, .bool t]) ∧ OwL w.heap.size w' r rs ∧ Below w.heap.size w w'
theorem lapsOfQ_len {ps : List Pt} {l : List Row3} {t : Bool} (h : lapsOfQ ps = (l, t)) : l.length ≤ 1048576 := by
  unfold lapsOfQ at h
  split at h
  · rename_i hh
    obtain ⟨rfl, -⟩ := Prod.mk.inj h
    have h2 := lapsQ_len ps
    have h3 := okMap_len hh
    omega
  · obtain ⟨rfl, -⟩ := Prod.mk.inj h; simp

set_option maxHeartbeats 800000 in
theorem iLapsOf_is (ps : List Pt) (v : Value) (l : List Row3) (t : Bool) (hl : lapsOfQ ps = (l, t)) (w : World) (hv : RdP w v ps) (hn : ps.length ≤ 1048576) :
    Calls Try.prog 57 #[v] w (RetLB w l t) := by
  have HV := Lib.hid hv
  rcases hm : okMap ps with _ | _
  · obtain ⟨rfl, rfl⟩ : [] = l ∧ false = t := by unfold lapsOfQ at hl; rw [if_neg (by rw [hm]; simp)] at hl; exact Prod.mk.inj hl
    have HM := Lib.hid hm
    clear hv hl hm
    go_enter Try.func57, Try.ntmps57
    go_wp2_with fail
    refine (isMap_is ps v false _ (HV.out.keep (by go_grown)) hn HM.out).mono ?_
    rintro e w1 ⟨rfl, hb⟩
    go_wp2_with fail
    go_ret2
    exact ⟨_, rfl, OwL.nil _ _, hb⟩
  · obtain ⟨rfl, rfl⟩ : lapsQ ps = l ∧ true = t := by unfold lapsOfQ at hl; rw [if_pos hm] at hl; exact Prod.mk.inj hl
    have HM := Lib.hid hm
    have hlen := okMap_len hm
    clear hv hl hm
    go_enter Try.func57, Try.ntmps57
    go_wp2_with fail
    refine (isMap_is ps v true _ (HV.out.keep (by go_grown)) hn HM.out).mono ?_
    rintro e w1 ⟨rfl, hb⟩
    have hz := hb.size
    go_wp2_with fail
    refine (iLaps_is ps v _ (HV.out.keep hb) (okMap_riseC HM.out) (by omega)).mono ?_
    rintro e w2 ⟨r, rfl, ow, hb2⟩
    have HO := Lib.hid (ow.low (B := w.heap.size) hz)
    clear ow
    go_wp2_with fail
    go_ret2
    exact ⟨_, rfl, HO.out, nextW hb hb2⟩

set_option maxHeartbeats 800000 in
theorem sLapsOf_is (ps : List Pt) (v : Value) (l : List Row3) (t : Bool) (hl : lapsOfQ ps = (l, t)) (w : World) (hv : RdP w v ps) (hn : ps.length ≤ 1048576) :
    Calls Try.prog 56 #[v] w (RetLB w l t) := by
  have HV := Lib.hid hv
  rcases hm : okMap ps with _ | _
  · obtain ⟨rfl, rfl⟩ : [] = l ∧ false = t := by unfold lapsOfQ at hl; rw [if_neg (by rw [hm]; simp)] at hl; exact Prod.mk.inj hl
    have HM := Lib.hid hm
    clear hv hl hm
    go_enter Try.func56, Try.ntmps56
    go_wp2_with fail
    refine (imGood_is ps v false _ (HV.out.keep (by go_grown)) hn HM.out).mono ?_
    rintro e w1 ⟨rfl, hb⟩
    go_wp2_with fail
    go_ret2
    exact ⟨_, rfl, OwL.nil _ _, hb⟩
  · obtain ⟨rfl, rfl⟩ : lapsQ ps = l ∧ true = t := by unfold lapsOfQ at hl; rw [if_pos hm] at hl; exact Prod.mk.inj hl
    have HM := Lib.hid hm
    have hlen := okMap_len hm
    clear hv hl hm
    go_enter Try.func56, Try.ntmps56
    go_wp2_with fail
    refine (imGood_is ps v true _ (HV.out.keep (by go_grown)) hn HM.out).mono ?_
    rintro e w1 ⟨rfl, hb⟩
    have hz := hb.size
    go_wp2_with fail
    refine (sLaps_is ps v _ (HV.out.keep hb) (okMap_riseC HM.out) (by omega)).mono ?_
    rintro e w2 ⟨r, rfl, ow, hb2⟩
    have HO := Lib.hid (ow.low (B := w.heap.size) hz)
    clear ow
    go_wp2_with fail
    go_ret2
    exact ⟨_, rfl, HO.out, nextW hb hb2⟩

end Go.Proofs.Ytkdhhopfefhdjaa
