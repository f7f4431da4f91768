/- Texts of points: pointsText, imText, MapText of both. -/
import Derived.Test.YtkeajfgcjmhmiaaGreatDoorM24
import Derived.Test.YtkeajfgcjmhmiaaGreatDoorM25
import Derived.Test.YtkeajfgcjmhmiaaGreatDoorM7
namespace Go.Proofs.YtkeajfgcjmhmiaaGreatDoor
open Go.RowKit

/-- The text of a point. -/
def ptL (p : Pt) : List UInt8 := ratL p.1.1 p.1.2 ++ [32] ++ ratL p.2.1 p.2.2 ++ [59]
def mapL (ps : List Pt) : List UInt8 := ps.flatMap ptL
def OkP (ps : List Pt) : Prop := ∀ p ∈ ps, okQ p.1.1 p.1.2 = true ∧ okQ p.2.1 p.2.2 = true
theorem OkP.of_map {ps : List Pt} (h : okMap ps = true) : OkP ps := fun p hp => by
  obtain ⟨i, hi⟩ := List.getElem?_of_mem hp
  obtain ⟨a, b⟩ := okMap_coord h hi
  exact ⟨unitQ_ok (coordQ_unit a), unitQ_ok (coordQ_unit b)⟩
theorem ptL_len {p : Pt} (h1 : okQ p.1.1 p.1.2 = true) (h2 : okQ p.2.1 p.2.2 = true) : (ptL p).length ≤ 88 := by
  have a := ratL_len h1
  have b := ratL_len h2
  unfold ptL
  simp only [List.length_append, List.length_singleton]
  omega
theorem snocT {α : Type} {l : List α} {k : Nat} {p : α} (h : l[k]? = some p) : l.take (k + 1) = l.take k ++ [p] := by
  rw [List.take_add_one, h]; rfl
theorem mapL_next {ps : List Pt} {k : Nat} {p : Pt} (h : ps[k]? = some p) : mapL (ps.take (k + 1)) = mapL (ps.take k) ++ ptL p := by
  unfold mapL
  rw [snocT h, List.flatMap_append]
  simp
theorem mapL_len {ps : List Pt} (h : OkP ps) : (mapL ps).length ≤ 88 * ps.length := by
  induction ps with
  | nil => simp [mapL]
  | cons p r ih =>
    have h1 := ih (fun q hq => h q (List.mem_cons_of_mem _ hq))
    have h2 := ptL_len (h p (List.mem_cons_self ..)).1 (h p (List.mem_cons_self ..)).2
    unfold mapL at h1 ⊢
    rw [List.flatMap_cons, List.length_append, List.length_cons]
    omega
theorem OkP.take {ps : List Pt} (h : OkP ps) (k : Nat) : OkP (ps.take k) := fun p hp => h p (List.mem_of_mem_take hp)
def IsB (b : Nat) (l : List UInt8) (w : World) : Prop := Lib.IsBuilder 78 5 b b (Lib.byteCells l) w
theorem IsB.keep {b : Nat} {l : List UInt8} {w w' : World} (h : IsB b l w) (hb : Below w.heap.size w w') : IsB b l w' := by
  have one : ∀ p, Lib.BuilderAt 78 5 b b p (Lib.byteCells l) w → Lib.BuilderAt 78 5 b b p (Lib.byteCells l) w' := fun p h => by
    have hlt := h.lt
    obtain ⟨h1, v, h2, h3, h4⟩ := h
    exact ⟨h1, v, (hb.block b hlt).trans h2, ownsRow_keep h3 hb, h4⟩
  exact h.imp (one _) (one _)
theorem IsB.lt {b : Nat} {l : List UInt8} {w : World} (h : IsB b l w) : b < w.heap.size := h.elim (·.lt) (·.lt)
def ptA (a b : Int) : List UInt8 := ratL a b ++ [32]
def ptB (a b c d : Int) : List UInt8 := ratL a b ++ [32] ++ ratL c d
theorem ptTexts (p1 p2 p3 p4 : Int) (h1 : okQ p1 p2 = true) (h2 : okQ p3 p4 = true) :
    (∀ W, (binOp .add 9 (str (ratL p1 p2)) (.string ⟨#[32]⟩)).run Tryz.prog W = .ok (str (ptA p1 p2)) W) ∧
    (∀ W, (binOp .add 9 (str (ptA p1 p2)) (str (ratL p3 p4))).run Tryz.prog W = .ok (str (ptB p1 p2 p3 p4)) W) ∧
    (∀ W, (binOp .add 9 (str (ptB p1 p2 p3 p4)) (.string ⟨#[59]⟩)).run Tryz.prog W = .ok (str (ptL ((p1, p2), p3, p4))) W) := by
  have a := ratL_len h1
  have b := ratL_len h2
  refine ⟨fun W => run_cat W _ [32] (by omega) (by simp), fun W => run_cat W (ptA p1 p2) _ (by unfold ptA; simp; omega) (by omega), fun W => run_cat W (ptB p1 p2 p3 p4) [59] (by unfold ptB; simp; omega) (by simp)⟩

def RelIt (ps : List Pt) (w : World) (s i : Value) (wr : World) : Prop := ∃ k : Nat, k ≤ ps.length ∧ i = .int .i64 k ∧ s = str (mapL (ps.take k)) ∧ Below w.heap.size w wr
set_option maxRecDepth 100000 in
set_option maxHeartbeats 3200000 in
theorem imText_is (ps : List Pt) (v : Value) (w : World) (hv : RdP w v ps) (ho : OkP ps) (hn : ps.length ≤ 10000) :
    Calls Tryz.prog 33 #[v] w fun e w' => e = .returned (str (mapL ps)) ∧ Below w.heap.size w w' := by
  obtain ⟨A, c, rfl, hl, hmx, hcell⟩ := hv
  unfold maxLen at hmx
  have HC := Lib.hid hcell
  have HOk := Lib.hid ho
  clear hcell ho
  go_enter Tryz.func33, Tryz.ntmps33
  go_wp2_with fail
  go_loopw [3, 8] (fun s i wr => RelIt ps w s i wr) (fun _ i _ => ps.length - (intOf i).toNat)
  case atStart => exact ⟨0, Nat.zero_le _, rfl, rfl, Below.refl _ _⟩
  case round =>
    obtain ⟨k, hk2, rfl, rfl, hb⟩ := hrel
    have hzr := hb.size
    by_cases hlt : k < ps.length
    · have hx := List.getElem?_eq_getElem hlt
      generalize ps[k] = p at *
      obtain ⟨g, o, rfl, hg, hcc⟩ := HC.out (by rintro rfl; simp at hlt)
      obtain ⟨c0, c1, c2, c3⟩ := hcc k _ hx
      have HNx := Lib.hid (mapL_next hx)
      obtain ⟨o1, o2⟩ := HOk.out p (List.mem_of_getElem? hx)
      obtain ⟨⟨p1, p2⟩, p3, p4⟩ := p
      have hT := ptTexts p1 p2 p3 p4 o1 o2
      obtain ⟨t1, t2, t3⟩ := hT
      have HO1 := Lib.hid o1
      have HO2 := Lib.hid o2
      have hpl := ptL_len (p := ((p1, p2), p3, p4)) o1 o2
      have hml := mapL_len (HOk.out.take k)
      have htl : (ps.take k).length ≤ k := by rw [List.length_take]; omega
      have b0 : (0 : Int) ≤ (k : Int) := by omega
      have b1 : (k : Int) < (ps.length : Int) := by omega
      have v2 : IntKind.i64.wrap ((k : Int) + 1) = (k : Int) + 1 := IntWalk.i64_in _ (by omega)
      have v3 : IntKind.i64.wrap (k : Int) = (k : Int) := IntWalk.i64_in _ (by omega)
      have t4 : ∀ W, (binOp .add 9 (str (mapL (ps.take k))) (str (ptL ((p1, p2), p3, p4)))).run Tryz.prog W = .ok (str (mapL (ps.take (k + 1)))) W := fun W => by
        rw [HNx.out]
        exact run_cat W _ _ (by omega) (by omega)
      replace c0 := cellB hb c0
      replace c1 := cellB hb c1
      replace c2 := cellB hb c2
      replace c3 := cellB hb c3
      clear hx hcc HC o1 o2
      go_wp2_with fail
      go_name_world W0 hW
      have e0 : W0.cell? ⟨wr.heap.size, 0, none⟩ = some (.int .i64 p1) := by rw [← hW]; simp [go_sem]
      have e1 : W0.cell? ⟨wr.heap.size, 1, none⟩ = some (.int .i64 p2) := by rw [← hW]; simp [go_sem]
      have e2 : W0.cell? ⟨wr.heap.size, 2, none⟩ = some (.int .i64 p3) := by rw [← hW]; simp [go_sem]
      have e3 : W0.cell? ⟨wr.heap.size, 3, none⟩ = some (.int .i64 p4) := by rw [← hW]; simp [go_sem]
      have hB0 : Below wr.heap.size wr W0 := by rw [← hW]; go_grown
      clear hW
      refine wp_region_below (by kernel_rfl) (by kernel_rfl) ?_
      iterate 12 (first
        | (refine stepV (v := ?_) rfl (fun W hW => ?_) ?_
           rotate_left
           focus
             have qc0 := cellB hW.out e0
             have qc1 := cellB hW.out e1
             have qc2 := cellB hW.out e2
             have qc3 := cellB hW.out e3
             go_simp
             try with_reducible rfl
             done
           simp only [Act.put, List.setIfInBounds_toArray, List.set_cons_zero, List.set_cons_succ])
        | (refine stepC rfl (fun W hW => ?_) (fun W hW => callB hW (raText_is p1 p2 HO1.out W)) ?_
           focus
             go_simp
             try with_reducible rfl
             done
           simp only [Act.put, List.setIfInBounds_toArray, List.set_cons_zero, List.set_cons_succ])
        | (refine stepC rfl (fun W hW => ?_) (fun W hW => callB hW (raText_is p3 p4 HO2.out W)) ?_
           focus
             go_simp
             try with_reducible rfl
             done
           simp only [Act.put, List.setIfInBounds_toArray, List.set_cons_zero, List.set_cons_succ]))
      refine stepN ?_
      intro w2 hw2
      have hB := nextW hb (nextX hB0 hw2.out)
      clear hw2 hB0 t1 t2 t3 t4 e0 e1 e2 e3
      go_wp2_with fail
      go_roundw
      case rel => exact ⟨k + 1, by omega, by go_num, rfl, hB⟩
      case measure => simp [intOf] <;> omega
    · obtain rfl : k = ps.length := by omega
      have HE := Lib.hid (show mapL (ps.take ps.length) = mapL ps by rw [List.take_length])
      go_wp2_with fail
      go_ret
      exact ⟨by rw [← HE.out]; rfl, hb⟩

def RelPx (ps : List Pt) (w : World) (i : Value) (wr : World) : Prop := ∃ k : Nat, k ≤ ps.length ∧ i = .int .i64 k ∧ IsB w.heap.size (mapL (ps.take k)) wr ∧ Below w.heap.size w wr
set_option maxRecDepth 100000 in
set_option maxHeartbeats 3200000 in
theorem pointsText_is (ps : List Pt) (v : Value) (w : World) (hv : RdP w v ps) (ho : OkP ps) (hn : ps.length ≤ 10000) (ht : Tab w) :
    Calls Tryz.prog 32 #[v] w fun e w' => e = .returned (str (mapL ps)) ∧ Below w.heap.size w w' := by
  obtain ⟨A, c, rfl, hl, hmx, hcell⟩ := hv
  unfold maxLen at hmx
  have HC := Lib.hid hcell
  have HOk := Lib.hid ho
  have HTb := Lib.hid ht
  have HSt := Lib.hid (Lib.fresh_isBuilder 78 5 w)
  clear hcell ho ht
  go_enter Tryz.func32, Tryz.ntmps32
  go_wp2_with fail
  go_loopw [8] (fun i wr => RelPx ps w i wr) (fun i _ => ps.length - (intOf i).toNat)
  case atStart => exact ⟨0, Nat.zero_le _, rfl, HSt.out, by go_grown⟩
  case round =>
    obtain ⟨k, hk2, rfl, hib, hb⟩ := hrel
    have HIb := Lib.hid hib
    have zib := hib.lt
    have hzr := hb.size
    clear hib
    by_cases hlt : k < ps.length
    · have hx := List.getElem?_eq_getElem hlt
      generalize ps[k] = p at *
      obtain ⟨g, o, rfl, hg, hcc⟩ := HC.out (by rintro rfl; simp at hlt)
      obtain ⟨c0, c1, c2, c3⟩ := hcc k _ hx
      have HNx := Lib.hid (mapL_next hx)
      obtain ⟨o1, o2⟩ := HOk.out p (List.mem_of_getElem? hx)
      obtain ⟨⟨p1, p2⟩, p3, p4⟩ := p
      have hT := ptTexts p1 p2 p3 p4 o1 o2
      obtain ⟨t1, t2, t3⟩ := hT
      have HO1 := Lib.hid o1
      have HO2 := Lib.hid o2
      have hpl := ptL_len (p := ((p1, p2), p3, p4)) o1 o2
      have hml := mapL_len (HOk.out.take k)
      have htl : (ps.take k).length ≤ k := by rw [List.length_take]; omega
      have b0 : (0 : Int) ≤ (k : Int) := by omega
      have b1 : (k : Int) < (ps.length : Int) := by omega
      have v2 : IntKind.i64.wrap ((k : Int) + 1) = (k : Int) + 1 := IntWalk.i64_in _ (by omega)
      have v3 : IntKind.i64.wrap (k : Int) = (k : Int) := IntWalk.i64_in _ (by omega)
      replace c0 := cellB hb c0
      replace c1 := cellB hb c1
      replace c2 := cellB hb c2
      replace c3 := cellB hb c3
      clear hx hcc HC o1 o2
      go_wp2_with fail
      go_name_world W0 hW
      have e0 : W0.cell? ⟨wr.heap.size, 0, none⟩ = some (.int .i64 p1) := by rw [← hW]; simp [go_sem]
      have e1 : W0.cell? ⟨wr.heap.size, 1, none⟩ = some (.int .i64 p2) := by rw [← hW]; simp [go_sem]
      have e2 : W0.cell? ⟨wr.heap.size, 2, none⟩ = some (.int .i64 p3) := by rw [← hW]; simp [go_sem]
      have e3 : W0.cell? ⟨wr.heap.size, 3, none⟩ = some (.int .i64 p4) := by rw [← hW]; simp [go_sem]
      have hB0 : Below wr.heap.size wr W0 := by rw [← hW]; go_grown
      have HT0 := Lib.hid (HTb.out.keep (nextW hb hB0))
      clear hW c0 c1 c2 c3
      refine wp_region_HT (S := fun w' => w'.cell? ⟨wr.heap.size, 0, none⟩ = some (.int .i64 p1) ∧ w'.cell? ⟨wr.heap.size, 1, none⟩ = some (.int .i64 p2) ∧ w'.cell? ⟨wr.heap.size, 2, none⟩ = some (.int .i64 p3) ∧ w'.cell? ⟨wr.heap.size, 3, none⟩ = some (.int .i64 p4)) 9 (by kernel_rfl) (by kernel_rfl) ?_
      have hS0 : (fun w' : World => w'.cell? ⟨wr.heap.size, 0, none⟩ = some (.int .i64 p1) ∧ w'.cell? ⟨wr.heap.size, 1, none⟩ = some (.int .i64 p2) ∧ w'.cell? ⟨wr.heap.size, 2, none⟩ = some (.int .i64 p3) ∧ w'.cell? ⟨wr.heap.size, 3, none⟩ = some (.int .i64 p4)) _ := ⟨e0, e1, e2, e3⟩
      refine HT.take' (i := 0) (v := ?_) rfl (by kernel_rfl) (by decide) (by kernel_rfl) (by kernel_rfl) (fun _ _ _ h => h) (by rfl) (fun w' hS => ?_) hS0 ?_
      rotate_left
      focus
        obtain ⟨k0, k1, k2, k3⟩ := hS
        go_simp
        try with_reducible rfl
        done
      simp only [Act.put, List.setIfInBounds_toArray, List.set_cons_zero, List.set_cons_succ]
      refine HT.take' (i := 1) (v := ?_) rfl (by kernel_rfl) (by decide) (by kernel_rfl) (by kernel_rfl) (fun _ _ _ h => h) (by rfl) (fun w' hS => ?_) hS0 ?_
      rotate_left
      focus
        obtain ⟨k0, k1, k2, k3⟩ := hS
        go_simp
        try with_reducible rfl
        done
      simp only [Act.put, List.setIfInBounds_toArray, List.set_cons_zero, List.set_cons_succ]
      refine HT.take' (i := 4) (v := ?_) rfl (by kernel_rfl) (by decide) (by kernel_rfl) (by kernel_rfl) (fun _ _ _ h => h) (by rfl) (fun w' hS => ?_) hS0 ?_
      rotate_left
      focus
        obtain ⟨k0, k1, k2, k3⟩ := hS
        go_simp
        try with_reducible rfl
        done
      simp only [Act.put, List.setIfInBounds_toArray, List.set_cons_zero, List.set_cons_succ]
      refine HT.take' (i := 5) (v := ?_) rfl (by kernel_rfl) (by decide) (by kernel_rfl) (by kernel_rfl) (fun _ _ _ h => h) (by rfl) (fun w' hS => ?_) hS0 ?_
      rotate_left
      focus
        obtain ⟨k0, k1, k2, k3⟩ := hS
        go_simp
        try with_reducible rfl
        done
      simp only [Act.put, List.setIfInBounds_toArray, List.set_cons_zero, List.set_cons_succ]
      refine HT.one' (i := 2) rfl (by decide) (by kernel_rfl) (fun K hK => ?_)
      go_simp
      refine (ratText_is p1 p2 HO1.out _ (HT0.out.keep (by go_grown))).mono ?_
      rintro e w2 ⟨rfl, h2⟩
      have hX2 : Below W0.heap.size W0 w2 := nextX (by go_grown) h2
      go_wp2_with fail
      have hS1 : (fun w' : World => w'.cell? ⟨wr.heap.size, 0, none⟩ = some (.int .i64 p1) ∧ w'.cell? ⟨wr.heap.size, 1, none⟩ = some (.int .i64 p2) ∧ w'.cell? ⟨wr.heap.size, 2, none⟩ = some (.int .i64 p3) ∧ w'.cell? ⟨wr.heap.size, 3, none⟩ = some (.int .i64 p4)) _ := ⟨cellB hX2 e0, cellB hX2 e1, cellB hX2 e2, cellB hX2 e3⟩
      refine hK _ _ hS1 ?_
      clear hK
      try simp only [Act.put, List.setIfInBounds_toArray, List.set_cons_zero, List.set_cons_succ]
      refine HT.take' (i := 3) (v := ?_) rfl (by kernel_rfl) (by decide) (by kernel_rfl) (by kernel_rfl) (fun _ _ _ h => h) (by rfl) (fun w' hS => ?_) hS1 ?_
      rotate_left
      focus
        obtain ⟨k0, k1, k2, k3⟩ := hS
        go_simp
        try with_reducible rfl
        done
      simp only [Act.put, List.setIfInBounds_toArray, List.set_cons_zero, List.set_cons_succ]
      refine HT.one' (i := 6) rfl (by decide) (by kernel_rfl) (fun K hK => ?_)
      go_simp
      refine (ratText_is p3 p4 HO2.out _ (HT0.out.keep (nextX hX2 (by go_grown)))).mono ?_
      rintro e w6 ⟨rfl, h6⟩
      have hX6 : Below W0.heap.size W0 w6 := nextX hX2 (nextX (by go_grown) h6)
      go_wp2_with fail
      have hS2 : (fun w' : World => w'.cell? ⟨wr.heap.size, 0, none⟩ = some (.int .i64 p1) ∧ w'.cell? ⟨wr.heap.size, 1, none⟩ = some (.int .i64 p2) ∧ w'.cell? ⟨wr.heap.size, 2, none⟩ = some (.int .i64 p3) ∧ w'.cell? ⟨wr.heap.size, 3, none⟩ = some (.int .i64 p4)) _ := ⟨cellB hX6 e0, cellB hX6 e1, cellB hX6 e2, cellB hX6 e3⟩
      refine hK _ _ hS2 ?_
      clear hK
      try simp only [Act.put, List.setIfInBounds_toArray, List.set_cons_zero, List.set_cons_succ]
      refine HT.take' (i := 7) (v := ?_) rfl (by kernel_rfl) (by decide) (by kernel_rfl) (by kernel_rfl) (fun _ _ _ h => h) (by rfl) (fun w' hS => ?_) hS2 ?_
      rotate_left
      focus
        obtain ⟨k0, k1, k2, k3⟩ := hS
        go_simp
        try with_reducible rfl
        done
      simp only [Act.put, List.setIfInBounds_toArray, List.set_cons_zero, List.set_cons_succ]
      refine HT.take' (i := 8) (v := ?_) rfl (by kernel_rfl) (by decide) (by kernel_rfl) (by kernel_rfl) (fun _ _ _ h => h) (by rfl) (fun w' hS => ?_) hS2 ?_
      rotate_left
      focus
        obtain ⟨k0, k1, k2, k3⟩ := hS
        go_simp
        try with_reducible rfl
        done
      simp only [Act.put, List.setIfInBounds_toArray, List.set_cons_zero, List.set_cons_succ]
      refine HT.done (by kernel_rfl) ?_
      simp only [List.drop_succ_cons, List.drop_zero]
      clear hS0 hS1 hS2 e0 e1 e2 e3 h2 hX2 h6
      go_wp2_with fail
      have hX7 : Below wr.heap.size wr w6 := nextX hB0 hX6
      refine (writeString_is w.heap.size w.heap.size _ ⟨(ptL ((p1, p2), p3, p4)).toArray⟩ _ (HIb.out.keep (nextX hX7 (by go_grown))) (by rw [Lib.byteCells_length]; simp [ByteArray.size]; omega) (by have := hX7.size; go_size)).mono ?_
      rintro e w9 ⟨rfl, hbu, h9⟩
      have hB9 : Below w.heap.size w w9 := Below.trans (nextW hb (nextX hX7 (by go_grown))) h9
      have HIn := Lib.hid (show IsB w.heap.size (mapL (ps.take (k + 1))) w9 by
        rw [HNx.out]
        unfold IsB
        rw [Lib.byteCells_append]
        exact .inr hbu)
      clear hbu h9 hX7 hX6 hB0
      go_wp2_with fail
      go_roundw
      case rel => exact ⟨k + 1, by omega, by go_num, HIn.out, hB9⟩
      case measure => simp [intOf] <;> omega
    · obtain rfl : k = ps.length := by omega
      have HE := Lib.hid (show IsB w.heap.size (mapL ps) wr by have := HIb.out; rwa [List.take_length] at this)
      go_wp2_with fail
      refine (Tryz.Builder_String_any w.heap.size w.heap.size _ _ (HE.out.keep (by go_grown)) (by go_size)).mono ?_
      rintro e w9 ⟨rfl, h9⟩
      have hB9 : Below w.heap.size w w9 := Below.trans (nextX hb (by go_grown)) h9
      go_wp2_with fail
      go_ret
      exact ⟨rfl, hB9⟩

def mtQ (ps : List Pt) : List UInt8 × Bool := if okMap ps = true then (mapL ps, true) else ([], false)
theorem mtQ_yes {ps : List Pt} {l : List UInt8} {t : Bool} (hl : mtQ ps = (l, t)) (h : okMap ps = true) : mapL ps = l ∧ true = t := by
  unfold mtQ at hl; rw [if_pos h] at hl; exact Prod.mk.inj hl
theorem mtQ_no {ps : List Pt} {l : List UInt8} {t : Bool} (hl : mtQ ps = (l, t)) (h : okMap ps = false) : [] = l ∧ false = t := by
  unfold mtQ at hl; rw [if_neg (by rw [h]; simp)] at hl; exact Prod.mk.inj hl

set_option maxHeartbeats 800000 in
theorem sMapText_is (ps : List Pt) (v : Value) (l : List UInt8) (t : Bool) (hl : mtQ ps = (l, t)) (w : World) (hv : RdP w v ps) (hn : ps.length ≤ 1048576) :
    Calls Tryz.prog 10 #[v] w (RetSB w l t) := by
  have HV := Lib.hid hv
  rcases h : okMap ps with _ | _
  · obtain ⟨rfl, rfl⟩ := mtQ_no hl h
    have HK := Lib.hid h
    clear hl h hv
    go_enter Tryz.func10, Tryz.ntmps10
    go_wp2_with fail
    refine (imGood_is ps v false _ (HV.out.keep (by go_grown)) hn HK.out).mono ?_
    rintro e w1 ⟨rfl, hb⟩
    have hB : Below w.heap.size w w1 := nextX (by go_grown) hb
    clear hb
    go_wp2_with fail
    go_ret2
    exact ⟨rfl, hB⟩
  · obtain ⟨rfl, rfl⟩ := mtQ_yes hl h
    have HK := Lib.hid h
    have hlen := okMap_len h
    clear hl h hv
    go_enter Tryz.func10, Tryz.ntmps10
    go_wp2_with fail
    refine (imGood_is ps v true _ (HV.out.keep (by go_grown)) hn HK.out).mono ?_
    rintro e w1 ⟨rfl, hb⟩
    have hB : Below w.heap.size w w1 := nextX (by go_grown) hb
    clear hb
    go_wp2_with fail
    refine (imText_is ps v _ (HV.out.keep (nextX hB (by go_grown))) (OkP.of_map HK.out) (by omega)).mono ?_
    rintro e w2 ⟨rfl, hb⟩
    have hB2 := nextX hB (nextX (by go_grown) hb)
    clear hb
    go_wp2_with fail
    go_ret2
    exact ⟨rfl, hB2⟩

set_option maxHeartbeats 800000 in
theorem iMapText_is (ps : List Pt) (v : Value) (l : List UInt8) (t : Bool) (hl : mtQ ps = (l, t)) (w : World) (hv : RdP w v ps) (hn : ps.length ≤ 1048576) (ht : Tab w) :
    Calls Tryz.prog 9 #[v] w (RetSB w l t) := by
  have HV := Lib.hid hv
  rcases h : okMap ps with _ | _
  · obtain ⟨rfl, rfl⟩ := mtQ_no hl h
    have HK := Lib.hid h
    clear hl h hv
    go_enter Tryz.func9, Tryz.ntmps9
    go_wp2_with fail
    refine (isMap_is ps v false _ (HV.out.keep (by go_grown)) hn HK.out).mono ?_
    rintro e w1 ⟨rfl, hb⟩
    have hB : Below w.heap.size w w1 := nextX (by go_grown) hb
    clear hb
    go_wp2_with fail
    go_ret2
    exact ⟨rfl, hB⟩
  · obtain ⟨rfl, rfl⟩ := mtQ_yes hl h
    have HK := Lib.hid h
    have hlen := okMap_len h
    clear hl h hv
    go_enter Tryz.func9, Tryz.ntmps9
    go_wp2_with fail
    refine (isMap_is ps v true _ (HV.out.keep (by go_grown)) hn HK.out).mono ?_
    rintro e w1 ⟨rfl, hb⟩
    have hB : Below w.heap.size w w1 := nextX (by go_grown) hb
    clear hb
    go_wp2_with fail
    refine (pointsText_is ps v _ (HV.out.keep (nextX hB (by go_grown))) (OkP.of_map HK.out) (by omega) (ht.keep (nextX hB (by go_grown)))).mono ?_
    rintro e w2 ⟨rfl, hb⟩
    have hB2 := nextX hB (nextX (by go_grown) hb)
    clear hb
    go_wp2_with fail
    go_ret2
    exact ⟨rfl, hB2⟩

end Go.Proofs.YtkeajfgcjmhmiaaGreatDoor
