/- The program's fractions before a value. -/
import Derived.Test.YtkeajfgcjmhmiaaGreatJ17
import Derived.Test.YtkeajfgcjmhmiaaGreatJ19
namespace Go.Proofs.YtkeajfgcjmhmiaaGreat
open Go.RowKit

theorem befL_zero (y : Q) (ps : List Pt) : befL y ps 0 = [] := by unfold befL; simp
theorem befL_one {y : Q} {ps : List Pt} {q : Pt} (h : ps[0]? = some q) : befL y ps 1 = befL y ps 0 ++ (if q.2 = y then [q.1] else []) := by
  rw [befL_zero]
  unfold befL
  cases ps with
  | nil => simp at h
  | cons a r => simp at h; subst h; simp
theorem take1 {α : Type} (l : List α) (k : Nat) : (l.take (k + 1)).take 1 = l.take 1 := by
  rw [List.take_take]
  congr 1
theorem befL_next {y : Q} {ps : List Pt} {k : Nat} {p q : Pt} (hp : ps[k]? = some p) (hq : ps[k + 1]? = some q) :
    befL y ps (k + 1 + 1) = befL y ps (k + 1) ++ (if q.2 = y then [q.1] else []) ++ (if crossY y p q = true then [backV p q y] else []) := by
  unfold befL
  rw [take1, take1, Nat.add_sub_cancel, Nat.add_sub_cancel, take_snoc_get (pcs_get hp hq), List.flatMap_append]
  unfold befI
  simp
theorem befB_zero (y : Q) (ps : List Pt) : befB y ps 0 = false := by unfold befB; simp
theorem befB_one (y : Q) (ps : List Pt) : befB y ps 1 = false := by unfold befB; simp
theorem befB_next {y : Q} {ps : List Pt} {k : Nat} {p q : Pt} (hp : ps[k]? = some p) (hq : ps[k + 1]? = some q) : befB y ps (k + 1 + 1) = (befB y ps (k + 1) || badPc y (p, q)) := by
  unfold befB
  rw [Nat.add_sub_cancel, Nat.add_sub_cancel, take_snoc_get (pcs_get hp hq), List.any_append]
  simp
theorem befI_len (y : Q) (s : Pt × Pt) : (befI y s).length ≤ 2 := by
  unfold befI
  rw [List.length_append]
  repeat' split
  all_goals simp
theorem flat_bd {α β : Type} (f : α → List β) (m : Nat) (h : ∀ a, (f a).length ≤ m) : ∀ l : List α, (l.flatMap f).length ≤ m * l.length
  | [] => by simp
  | a :: r => by
    have := flat_bd f m h r
    have := h a
    rw [List.flatMap_cons, List.length_append, List.length_cons, Nat.mul_succ]
    omega
theorem befL_len (y : Q) (ps : List Pt) (k : Nat) : (befL y ps k).length ≤ 1 + 2 * ps.length := by
  unfold befL
  have h1 := flat_bd (fun p : Pt => if p.2 = y then [p.1] else []) 1 (fun a => by split <;> simp) ((ps.take k).take 1)
  have h2 := flat_bd (befI y) 2 (befI_len y) ((pcs ps).take (k - 1))
  rw [List.length_append]
  rw [List.length_take] at h1
  rw [List.length_take, pcs_len] at h2
  omega
theorem crossY_bd (y : Q) (p q : Pt) : -1 ≤ cmpQ p.2.1 p.2.2 y.1 y.2 * cmpQ q.2.1 q.2.2 y.1 y.2 ∧ cmpQ p.2.1 p.2.2 y.1 y.2 * cmpQ q.2.1 q.2.2 y.1 y.2 ≤ 1 := by
  rcases cmpQ_abs p.2.1 p.2.2 y.1 y.2 with h | h | h <;> rcases cmpQ_abs q.2.1 q.2.2 y.1 y.2 with k | k | k <;> rw [h, k] <;> decide
theorem eq_ways (a b c d : Int) : ((a == c) = true ∧ (b == d) = true) ∨ (a == c) = false ∨ ((a == c) = true ∧ (b == d) = false) := by
  rcases h1 : (a == c) with _ | _
  · exact .inr (.inl rfl)
  · rcases h2 : (b == d) with _ | _
    · exact .inr (.inr ⟨rfl, rfl⟩)
    · exact .inl ⟨rfl, rfl⟩

theorem But.then_below {g : Nat} {a w w' : World} (h : But g a w) (k : Below a.heap.size w w') : But g a w' :=
  ⟨k.os.trans h.os, k.tape.trans h.tape, k.output.trans h.output, Nat.le_trans h.size k.size, fun b hb hn => (k.block b hb).trans (h.block b hb hn)⟩
theorem OwQ.ne_type {base b : Nat} {e t : TypeId} {w : World} {v : Value} {qs : List Q} {xs : Array Value} (h : OwQ base e w v qs) (hb : w.heap[b]? = some (.cells xs t)) (hn : t ≠ e) : v.ownBlock ≠ some b := by
  intro hv
  rcases h.2 with ⟨rfl, -⟩ | ⟨g, cap, cur, rfl, _, hh, _⟩
  · simp [Value.ownBlock] at hv
  · simp only [Value.ownBlock, Option.some.injEq] at hv
    subst hv
    rw [hb] at hh
    simp only [Option.some.injEq, Obj.cells.injEq] at hh
    exact hn hh.2.1
theorem box4 {b : Nat} {w : World} {a1 a2 a3 a4 : Value} {t : TypeId} (h : w.heap[b]? = some (.cells #[a1, a2, a3, a4] t)) : w.cell? ⟨b, 0, none⟩ = some a1 ∧ w.cell? ⟨b, 1, none⟩ = some a2 ∧ w.cell? ⟨b, 2, none⟩ = some a3 ∧ w.cell? ⟨b, 3, none⟩ = some a4 := by
  refine ⟨?_, ?_, ?_, ?_⟩ <;> simp [World.cell?, h]
theorem slot_below {B b o : Nat} {w w' : World} {v : Value} (k : Below B w w') (hb : b < B) (h : Slot w b o v) : Slot w' b o v :=
  ⟨(k.cell (p := ⟨b, o, none⟩) hb).trans h.1, (World.frozen?_of_block (w := w) (k.block b hb)).trans h.2⟩

/-- What before leaves. -/
def BefEnd (gc : Nat) (bad : Bool) (qs : List Q) (w : World) (x : Ending) (w' : World) : Prop :=
  ∃ r, x = .returned r ∧ OwQ w.heap.size 31 w' r qs ∧ Slot w' gc 0 (.bool bad) ∧ But gc w w'
def RelBf (y : Q) (ps : List Pt) (bad : Bool) (gc h : Nat) (W0 : World) (out i : Value) (wr : World) : Prop :=
  ∃ k : Nat, k ≤ ps.length ∧ i = .int .i64 k ∧ OwQ h 31 wr out (befL y ps k) ∧ Slot wr gc 0 (.bool (bad || befB y ps k)) ∧ But gc W0 wr

set_option maxRecDepth 100000 in
set_option maxHeartbeats 6400000 in
theorem cBefore_is (ps : List Pt) (v : Value) (y1 y2 : Int) (bad : Bool) (gc : Nat) (w : World) (hv : RdP w v ps) (hm : okMap ps = true) (ho : Old gc v) (hy : okQ y1 y2 = true) (hs : Slot w gc 0 (.bool bad)) :
    Calls Tryz.prog 106 #[.pointer (some ⟨gc, 0, none⟩), v, .agg #[.int .i64 y1, .int .i64 y2]] w (BefEnd gc (bad || befB (y1, y2) ps ps.length) (setQ (befL (y1, y2) ps ps.length)) w) := by
  have hn := okMap_len hm
  have hgc := lt_of_cell hs.1
  have HM := Lib.hid hm
  obtain ⟨A, c, rfl, hl, hmx, hcell⟩ := hv
  unfold maxLen at hmx
  obtain ⟨g, o, rfl, hg, hc⟩ := hcell (by intro h; rw [h] at hn; simp at hn)
  have hgg : g < gc := ho _ _ _ rfl
  have HC := Lib.hid hc
  have HS := Lib.hid hs
  have SY := Lib.hid (Sm.of_ok hy)
  have HLn := Lib.hid (befL_len (y1, y2) ps)
  clear hcell hc hm hs ho hy
  go_enter Tryz.func106, Tryz.ntmps106
  go_wp2_with fail
  go_name_world W0 hW
  have hB0 : Below w.heap.size w W0 := by rw [← hW]; go_grown
  have hz0 : w.heap.size < W0.heap.size := by rw [← hW]; simp
  have y0 : W0.cell? ⟨w.heap.size, 0, none⟩ = some (.int .i64 y1) := by rw [← hW]; simp [go_sem]
  have y1' : W0.cell? ⟨w.heap.size, 1, none⟩ = some (.int .i64 y2) := by rw [← hW]; simp [go_sem]
  have S0 := slotB hB0 HS.out
  have hBu0 : But gc w W0 := But.of_below hB0 (Nat.le_refl _)
  clear hW
  go_loopw [7, 12] (fun out i wr => RelBf (y1, y2) ps bad gc W0.heap.size W0 out i wr) (fun _ i _ => ps.length - (intOf i).toNat)
  case atStart => exact ⟨0, by omega, rfl, by rw [befL_zero]; exact World.ownsRow_nil _ _ _ _, by rw [befB_zero, Bool.or_false]; exact S0, But.refl _ _⟩
  case round =>
    obtain ⟨k, hk, rfl, hown, hsl, hbu⟩ := hrel
    have HO := Lib.hid hown
    have hBr := hBu0.trans hbu
    have hzr := hBr.size
    have hz0r := hbu.size
    have HSl := Lib.hid hsl
    have yr0 := cellU hbu (by omega) y0
    have yr1 := cellU hbu (by omega) y1'
    have zyr := lt_of_cell yr0
    clear hown hsl
    by_cases hlt : k < ps.length
    · have hq := List.getElem?_eq_getElem hlt
      have hcq := okMap_coord HM.out hq
      generalize ps[k] = q at *
      obtain ⟨d0, d1, d2, d3⟩ := HC.out k _ hq
      have HHq := Lib.hid hq
      obtain ⟨⟨q1, q2⟩, q3, q4⟩ := q
      replace d0 := cellU hBr (by omega) d0
      replace d1 := cellU hBr (by omega) d1
      replace d2 := cellU hBr (by omega) d2
      replace d3 := cellU hBr (by omega) d3
      have HQc := Lib.hid (show CoP ((q1, q2), q3, q4) from hcq)
      have hlen := HLn.out k
      clear hq hcq
      rcases k with _ | j
      · have b0 : (0 : Int) < (ps.length : Int) := by omega
        have v2 : IntKind.i64.wrap ((0 : Int) + 1) = (0 : Int) + 1 := IntWalk.i64_in _ (by omega)
        simp only [Nat.zero_mul, Nat.add_zero] at d0 d1 d2 d3
        simp only [Int.natCast_zero] at *
        rcases eq_ways q3 q4 y1 y2 with ⟨e1, e2⟩ | e1 | ⟨e1, e2⟩
        · have HE1 := Lib.hid (show (if (q3, q4) = (y1, y2) then [(q1, q2)] else []) = [(q1, q2)] by rw [if_pos]; simp only [beq_iff_eq] at e1 e2; rw [e1, e2])
          go_wp2_with (at_builtin; refine append_q1g _ rfl _ _ rfl W0.heap.size _ (befL (y1, y2) ps 0) rfl ?ownz1 _ _ q1 q2 rfl ?c0z1 ?c1z1 ?lenz1 ?basez1 ?_)
          case ownz1 => exact HO.out.keep (by go_grown)
          try (case c0z1 => simp [go_sem])
          try (case c1z1 => simp [go_sem])
          case lenz1 => omega
          case basez1 => go_size
          intro va W1 hown h7
          have hne1 : ∀ b, b < W0.heap.size ∨ wr.heap.size ≤ b → u7.ownBlock ≠ some b := fun b hb hu => by
            have := World.ownsRow.lt HO.out b hu
            omega
          have hX1 : Below W0.heap.size wr W1 := ((by go_grown : Below W0.heap.size wr _)).trans ((Below.refl _ _).grown h7 (by go_size) (fun b hb => (World.ownsRow.lt HO.out b hb).1))
          have HB1 := Lib.hid (show W1.heap[wr.heap.size]? = some (.cells #[.int .i64 q1, .int .i64 q2, .int .i64 q3, .int .i64 q4] 51) from (h7.block wr.heap.size (by go_size) (fun e => hne1 _ (Or.inr (Nat.le_refl _)) e.symm)).trans ((((Below.refl _ (wr.alloc _)).alloc (Nat.le_refl _) _).block wr.heap.size (by simp)).trans (heap_alloc_new wr _)))
          have HO1 := Lib.hid (show OwQ W0.heap.size 31 W1 va (befL (y1, y2) ps 0 ++ (if (q3, q4) = (y1, y2) then [(q1, q2)] else [])) from by rw [HE1.out]; exact hown)
          clear hown h7 hne1 HE1 e1 e2
          have hbu1 : But gc W0 W1 := But.then_below hbu hX1
          have HSl1 := Lib.hid (slot_below hX1 (by omega) HSl.out)
          have yr0' := (hX1.cell (p := ⟨w.heap.size, 0, none⟩) (by omega)).trans yr0
          have yr1' := (hX1.cell (p := ⟨w.heap.size, 1, none⟩) (by omega)).trans yr1
          have hz1 : wr.heap.size < W1.heap.size := (Array.getElem?_eq_some_iff.1 HB1.out).1
          have hBr1 := hBu0.trans hbu1
          clear hX1 HSl HO hbu hzr hBr d0 d1 d2 d3 yr0 yr1
          have hd0 : decide ((0 : Int) < 0) = false := by decide
          go_wp2_with fail
          go_quiet (fail)
          go_wp2_with fail
          go_roundw
          case rel => exact ⟨0 + 1, by omega, by go_num, by rw [befL_one HHq.out]; exact HO1.out.keep (below_drewN (Below.refl _ _) _), by rw [befB_one]; have := HSl1.out; rw [befB_zero] at this; exact slotB (below_drewN (Below.refl _ _) _) this, But.then_below hbu1 (below_drewN (Below.refl _ _) _)⟩
          case measure => simp [intOf]; omega
        · have HE1 := Lib.hid (show (if (q3, q4) = (y1, y2) then [(q1, q2)] else []) = ([] : List Q) by rw [if_neg]; intro h; cases h; simp at e1)
          go_wp2_with fail
          go_name_world W1 hW1
          have hX1 : Below W0.heap.size wr W1 := by rw [← hW1]; go_grown
          have HB1 := Lib.hid (show W1.heap[wr.heap.size]? = some (.cells #[.int .i64 q1, .int .i64 q2, .int .i64 q3, .int .i64 q4] 51) from by rw [← hW1]; exact heap_alloc_new wr _)
          have HO1 := Lib.hid (show OwQ W0.heap.size 31 W1 u7 (befL (y1, y2) ps 0 ++ (if (q3, q4) = (y1, y2) then [(q1, q2)] else [])) from by rw [HE1.out, List.append_nil, ← hW1]; exact HO.out.keep (by go_grown))
          clear hW1 HE1
          have hbu1 : But gc W0 W1 := But.then_below hbu hX1
          have HSl1 := Lib.hid (slot_below hX1 (by omega) HSl.out)
          have yr0' := (hX1.cell (p := ⟨w.heap.size, 0, none⟩) (by omega)).trans yr0
          have yr1' := (hX1.cell (p := ⟨w.heap.size, 1, none⟩) (by omega)).trans yr1
          have hz1 : wr.heap.size < W1.heap.size := (Array.getElem?_eq_some_iff.1 HB1.out).1
          have hBr1 := hBu0.trans hbu1
          clear hX1 HSl HO hbu hzr hBr d0 d1 d2 d3 yr0 yr1
          have hd0 : decide ((0 : Int) < 0) = false := by decide
          go_wp2_with fail
          go_quiet (fail)
          go_wp2_with fail
          go_roundw
          case rel => exact ⟨0 + 1, by omega, by go_num, by rw [befL_one HHq.out]; exact HO1.out.keep (below_drewN (Below.refl _ _) _), by rw [befB_one]; have := HSl1.out; rw [befB_zero] at this; exact slotB (below_drewN (Below.refl _ _) _) this, But.then_below hbu1 (below_drewN (Below.refl _ _) _)⟩
          case measure => simp [intOf]; omega
        · have HE1 := Lib.hid (show (if (q3, q4) = (y1, y2) then [(q1, q2)] else []) = ([] : List Q) by rw [if_neg]; intro h; cases h; simp at e2)
          go_wp2_with fail
          go_name_world W1 hW1
          have hX1 : Below W0.heap.size wr W1 := by rw [← hW1]; go_grown
          have HB1 := Lib.hid (show W1.heap[wr.heap.size]? = some (.cells #[.int .i64 q1, .int .i64 q2, .int .i64 q3, .int .i64 q4] 51) from by rw [← hW1]; exact heap_alloc_new wr _)
          have HO1 := Lib.hid (show OwQ W0.heap.size 31 W1 u7 (befL (y1, y2) ps 0 ++ (if (q3, q4) = (y1, y2) then [(q1, q2)] else [])) from by rw [HE1.out, List.append_nil, ← hW1]; exact HO.out.keep (by go_grown))
          clear hW1 HE1
          have hbu1 : But gc W0 W1 := But.then_below hbu hX1
          have HSl1 := Lib.hid (slot_below hX1 (by omega) HSl.out)
          have yr0' := (hX1.cell (p := ⟨w.heap.size, 0, none⟩) (by omega)).trans yr0
          have yr1' := (hX1.cell (p := ⟨w.heap.size, 1, none⟩) (by omega)).trans yr1
          have hz1 : wr.heap.size < W1.heap.size := (Array.getElem?_eq_some_iff.1 HB1.out).1
          have hBr1 := hBu0.trans hbu1
          clear hX1 HSl HO hbu hzr hBr d0 d1 d2 d3 yr0 yr1
          have hd0 : decide ((0 : Int) < 0) = false := by decide
          go_wp2_with fail
          go_quiet (fail)
          go_wp2_with fail
          go_roundw
          case rel => exact ⟨0 + 1, by omega, by go_num, by rw [befL_one HHq.out]; exact HO1.out.keep (below_drewN (Below.refl _ _) _), by rw [befB_one]; have := HSl1.out; rw [befB_zero] at this; exact slotB (below_drewN (Below.refl _ _) _) this, But.then_below hbu1 (below_drewN (Below.refl _ _) _)⟩
          case measure => simp [intOf]; omega
      · have hp := List.getElem?_eq_getElem (show j < ps.length by omega)
        have hcp := okMap_coord HM.out hp
        generalize ps[j] = p at *
        have HHp := Lib.hid hp
        have HRi := Lib.hid (okMap_rising HM.out hp HHq.out)
        obtain ⟨⟨p1, p2⟩, p3, p4⟩ := p
        have HPc := Lib.hid (show CoP ((p1, p2), p3, p4) from hcp)
        obtain ⟨⟨r1, r2⟩, hrv⟩ : ∃ r, backV ((p1, p2), p3, p4) ((q1, q2), q3, q4) (y1, y2) = r := ⟨_, rfl⟩
        have HRv := Lib.hid hrv
        have hcl := crossY_bd (y1, y2) ((p1, p2), p3, p4) ((q1, q2), q3, q4)
        have hcr : crossY (y1, y2) ((p1, p2), p3, p4) ((q1, q2), q3, q4) = decide (cmpQ p3 p4 y1 y2 * cmpQ q3 q4 y1 y2 < 0) := rfl
        simp only at hcl
        obtain ⟨u, hu⟩ : ∃ u, cmpQ p3 p4 y1 y2 = u := ⟨_, rfl⟩
        obtain ⟨y, hy⟩ : ∃ y, cmpQ q3 q4 y1 y2 = y := ⟨_, rfl⟩
        have HU := Lib.hid (fun W => compare_any p3 p4 y1 y2 (Sm.of_ok (unitQ_ok (coordQ_unit HPc.out.2))).1 (Sm.of_ok (unitQ_ok (coordQ_unit HPc.out.2))).2 SY.out.1 SY.out.2 W)
        have HV := Lib.hid (fun W => compare_any q3 q4 y1 y2 (Sm.of_ok (unitQ_ok (coordQ_unit HQc.out.2))).1 (Sm.of_ok (unitQ_ok (coordQ_unit HQc.out.2))).2 SY.out.1 SY.out.2 W)
        simp only [hu, hy] at HU HV hcl hcr
        have v5 : IntKind.i64.wrap (u * y) = u * y := IntWalk.i64_in _ (by omega)
        have HCr := Lib.hid hcr
        have b0 : (0 : Int) ≤ (j : Int) := by omega
        have b1 : (j : Int) + 1 < (ps.length : Int) := by omega
        have b1' : (j : Int) < (ps.length : Int) := by omega
        have b3 : (0 : Int) ≤ (j : Int) + 1 := by omega
        have t2 : ((j : Int) + 1).toNat = j + 1 := by omega
        have v2 : IntKind.i64.wrap ((j : Int) + 1) = (j : Int) + 1 := IntWalk.i64_in _ (by omega)
        have v3 : IntKind.i64.wrap (j : Int) = (j : Int) := IntWalk.i64_in _ (by omega)
        have v4 : IntKind.i64.wrap ((j : Int) + 1 + 1) = (j : Int) + 1 + 1 := IntWalk.i64_in _ (by omega)
        rw [show (((j + 1 : Nat)) : Int) = (j : Int) + 1 from by omega] at *
        clear hp hcp hrv hcl hcr hu hy
        rcases eq_ways q3 q4 y1 y2 with ⟨e1, e2⟩ | e1 | ⟨e1, e2⟩
        · have HE1 := Lib.hid (show (if (q3, q4) = (y1, y2) then [(q1, q2)] else []) = [(q1, q2)] by rw [if_pos]; simp only [beq_iff_eq] at e1 e2; rw [e1, e2])
          go_wp2_with (at_builtin; refine append_q1g _ rfl _ _ rfl W0.heap.size _ (befL (y1, y2) ps (j + 1)) rfl ?owns4 _ _ q1 q2 rfl ?c0s4 ?c1s4 ?lens4 ?bases4 ?_)
          case owns4 => exact HO.out.keep (by go_grown)
          try (case c0s4 => simp [go_sem])
          try (case c1s4 => simp [go_sem])
          case lens4 => omega
          case bases4 => go_size
          intro va W1 hown h7
          have hne1 : ∀ b, b < W0.heap.size ∨ wr.heap.size ≤ b → u7.ownBlock ≠ some b := fun b hb hu => by
            have := World.ownsRow.lt HO.out b hu
            omega
          have hX1 : Below W0.heap.size wr W1 := ((by go_grown : Below W0.heap.size wr _)).trans ((Below.refl _ _).grown h7 (by go_size) (fun b hb => (World.ownsRow.lt HO.out b hb).1))
          have HB1 := Lib.hid (show W1.heap[wr.heap.size]? = some (.cells #[.int .i64 q1, .int .i64 q2, .int .i64 q3, .int .i64 q4] 51) from (h7.block wr.heap.size (by go_size) (fun e => hne1 _ (Or.inr (Nat.le_refl _)) e.symm)).trans ((((Below.refl _ (wr.alloc _)).alloc (Nat.le_refl _) _).block wr.heap.size (by simp)).trans (heap_alloc_new wr _)))
          have HO1 := Lib.hid (show OwQ W0.heap.size 31 W1 va (befL (y1, y2) ps (j + 1) ++ (if (q3, q4) = (y1, y2) then [(q1, q2)] else [])) from by rw [HE1.out]; exact hown)
          clear hown h7 hne1 HE1 e1 e2
          have hbu1 : But gc W0 W1 := But.then_below hbu hX1
          have HSl1 := Lib.hid (slot_below hX1 (by omega) HSl.out)
          have yr0' := (hX1.cell (p := ⟨w.heap.size, 0, none⟩) (by omega)).trans yr0
          have yr1' := (hX1.cell (p := ⟨w.heap.size, 1, none⟩) (by omega)).trans yr1
          have hz1 : wr.heap.size < W1.heap.size := (Array.getElem?_eq_some_iff.1 HB1.out).1
          have hBr1 := hBu0.trans hbu1
          clear hX1 HSl HO hbu hzr hBr d0 d1 d2 d3 yr0 yr1
          obtain ⟨a0, a1, a2, a3⟩ := HC.out j _ HHp.out
          replace a0 := cellU hBr1 (by omega) a0
          replace a1 := cellU hBr1 (by omega) a1
          replace a2 := cellU hBr1 (by omega) a2
          replace a3 := cellU hBr1 (by omega) a3
          obtain ⟨x0, x1, x2, x3⟩ := box4 HB1.out
          have hd0 : decide ((0 : Int) < (j : Int) + 1) = true := decide_eq_true (by omega)
          go_wp2_with fail
          refine wp_region_below (by kernel_rfl) (by kernel_rfl) ?_
          iterate 18 (first
            | (refine stepS rfl ?_; simp only [Act.put, List.setIfInBounds_toArray, List.set_cons_zero, List.set_cons_succ])
            | (refine stepV (v := ?_) rfl (fun W hW => ?_) ?_
               rotate_left
               focus
                 have qc0 := cellB hW.out a2
                 have qc1 := cellB hW.out a3
                 have qc2 := cellB hW.out x2
                 have qc3 := cellB hW.out x3
                 have qc4 := cellB hW.out yr0'
                 have qc5 := cellB hW.out yr1'
                 go_simp
                 try with_reducible rfl
                 done
               simp only [Act.put, List.setIfInBounds_toArray, List.set_cons_zero, List.set_cons_succ])
            | (refine stepC rfl (fun W hW => ?_) (fun W hW => callB hW (HU.out _)) ?_
               focus
                 go_simp
                 try with_reducible rfl
                 done
               simp only [Act.put, List.setIfInBounds_toArray, List.set_cons_zero, List.set_cons_succ])
            | (refine stepC rfl (fun W hW => ?_) (fun W hW => callB hW (HV.out _)) ?_
               focus
                 go_simp
                 try with_reducible rfl
                 done
               simp only [Act.put, List.setIfInBounds_toArray, List.set_cons_zero, List.set_cons_succ]))
          refine stepN ?_
          intro w2 hw2
          have hX2 := hw2.out
          have kL : Facts [(g, o + j * 4, Value.int .i64 p1), (g, o + j * 4 + 1, .int .i64 p2), (g, o + j * 4 + 2, .int .i64 p3), (g, o + j * 4 + 3, .int .i64 p4), (wr.heap.size, 0, .int .i64 q1), (wr.heap.size, 1, .int .i64 q2), (wr.heap.size, 2, .int .i64 q3), (wr.heap.size, 3, .int .i64 q4), (w.heap.size, 0, .int .i64 y1), (w.heap.size, 1, .int .i64 y2)] w2 := ⟨cellB hX2 a0, cellB hX2 a1, cellB hX2 a2, cellB hX2 a3, cellB hX2 x0, cellB hX2 x1, cellB hX2 x2, cellB hX2 x3, cellB hX2 yr0', cellB hX2 yr1'⟩
          have HO2 := Lib.hid (HO1.out.keep hX2)
          have HSl2 := Lib.hid (slotB hX2 HSl1.out)
          have hbu2 : But gc W0 w2 := hbu1.trans (But.of_below hX2 (Nat.le_refl _))
          have hz2 : W1.heap.size ≤ w2.heap.size := hX2.size
          have HB2 := Lib.hid ((hX2.block wr.heap.size (by omega)).trans HB1.out)
          clear hw2 hX2 a0 a1 a2 a3 x0 x1 x2 x3 yr0' yr1' HB1 HO1 HSl1 hbu1 hBr1
          by_cases hc : u * y < 0
          · have hc' : decide (u * y < 0) = true := by simpa using hc
            have HBk := Lib.hid (fun W bd (k : Slot W gc 0 (.bool bd)) => cBack_is p1 p2 p3 p4 q1 q2 q3 q4 y1 y2 r1 r2 bd _ gc W HPc.out HQc.out HRi.out k HRv.out rfl)
            have HNe := Lib.hid (show ∀ x ∈ [(g, o + j * 4, Value.int .i64 p1), (g, o + j * 4 + 1, .int .i64 p2), (g, o + j * 4 + 2, .int .i64 p3), (g, o + j * 4 + 3, .int .i64 p4), (wr.heap.size, 0, .int .i64 q1), (wr.heap.size, 1, .int .i64 q2), (wr.heap.size, 2, .int .i64 q3), (wr.heap.size, 3, .int .i64 q4), (w.heap.size, 0, .int .i64 y1), (w.heap.size, 1, .int .i64 y2)], x.1 ≠ gc by simp; omega)
            have HEn := Lib.hid (show befL (y1, y2) ps (j + 1 + 1) = befL (y1, y2) ps (j + 1) ++ (if (q3, q4) = (y1, y2) then [(q1, q2)] else []) ++ [(r1, r2)] from by rw [befL_next HHp.out HHq.out, if_pos (HCr.out.trans hc'), HRv.out])
            have HBn := Lib.hid (show befB (y1, y2) ps (j + 1 + 1) = (befB (y1, y2) ps (j + 1) || !backT ((p1, p2), p3, p4) ((q1, q2), q3, q4) (y1, y2)) from by rw [befB_next HHp.out HHq.out]; unfold badPc; rw [HCr.out, hc', Bool.true_and, back_flag])
            have HNo := Lib.hid (fun (v : Value) (W : World) (l : List Q) (h : OwQ W0.heap.size 31 W v l) => h.ne_low (g := gc) (by omega))
            have hlE : (if (q3, q4) = (y1, y2) then [(q1, q2)] else []).length ≤ 1 := by split <;> simp
            go_wp2_with fail
            go_region_held3 (fun w' => w'.cell? ⟨g, o + j * 4, none⟩ = some (.int .i64 p1) ∧ w'.cell? ⟨g, o + j * 4 + 1, none⟩ = some (.int .i64 p2) ∧ w'.cell? ⟨g, o + j * 4 + 2, none⟩ = some (.int .i64 p3) ∧ w'.cell? ⟨g, o + j * 4 + 3, none⟩ = some (.int .i64 p4) ∧ w'.cell? ⟨wr.heap.size, 0, none⟩ = some (.int .i64 q1) ∧ w'.cell? ⟨wr.heap.size, 1, none⟩ = some (.int .i64 q2) ∧ w'.cell? ⟨wr.heap.size, 2, none⟩ = some (.int .i64 q3) ∧ w'.cell? ⟨wr.heap.size, 3, none⟩ = some (.int .i64 q4) ∧ w'.cell? ⟨w.heap.size, 0, none⟩ = some (.int .i64 y1) ∧ w'.cell? ⟨w.heap.size, 1, none⟩ = some (.int .i64 y2))
              ((first | exact kL6 | exact kL5 | (refine Facts.keep kL5 ?_; go_grown; done) | (refine Facts.keep kL ?_; go_grown; done)))
              ((first
                | (go_at_call 161; (with_reducible refine (HBk.out _ _ (slotB ?_ HSl2.out)).mono ?_); (focus (go_grown; done)); rintro e w5 ⟨rfl, g5, k5'⟩; have k5 : But gc w2 w5 := (But.of_below (by go_grown : Below w2.heap.size w2 _) (Nat.le_refl _)).trans k5'; have kL5 := Facts.keepU kL k5 HNe.out; have ho5 := Lib.hid (HO2.out.keepU k5 (HNo.out _ _ _ HO2.out)); have hbu5 := hbu2.trans k5; have hz5 := k5.size; have HB5 := Lib.hid ((k5.block wr.heap.size (by omega) (by omega)).trans HB2.out); have HNb := Lib.hid (OwQ.ne_type ho5.out HB5.out (by decide)))
                | (refine step_append_rdg _ rfl _ _ rfl W0.heap.size _ _ _ [(r1, r2)] rfl (ho5.out.keep ?_) rfl ?_ ?_ ?_ ?_; (focus (go_grown; done)); (focus (refine OwQ.read (OwQ.one _ 0 31 r1 r2 (Nat.zero_le _)); done)); (focus (rw [List.length_append, List.length_singleton]; omega)); (focus (go_size; done)); intro v' w' hown h8 h8g; have hS6 := slot_below h8 (by omega) (slotB (by go_grown : Below w5.heap.size w5 _) g5); have hbu6 : But gc W0 w' := But.then_below hbu5 ((by go_grown : Below W0.heap.size w5 _).trans h8); have kL6 : Facts [(g, o + j * 4, Value.int .i64 p1), (g, o + j * 4 + 1, .int .i64 p2), (g, o + j * 4 + 2, .int .i64 p3), (g, o + j * 4 + 3, .int .i64 p4), (wr.heap.size, 0, .int .i64 q1), (wr.heap.size, 1, .int .i64 q2), (wr.heap.size, 2, .int .i64 q3), (wr.heap.size, 3, .int .i64 q4), (w.heap.size, 0, .int .i64 y1), (w.heap.size, 1, .int .i64 y2)] w' := by have hgr := fun b (hb : b < W0.heap.size) o u (hc : w5.cell? ⟨b, o, none⟩ = some u) => (h8.cell (p := ⟨b, o, none⟩) hb).trans (cellB (by go_grown : Below w5.heap.size w5 _) hc); have hgb := fun o u (hc : w5.cell? ⟨wr.heap.size, o, none⟩ = some u) => h8g.cell (cellB (by go_grown : Below w5.heap.size w5 _) hc) (fun e => HNb.out e.symm); obtain ⟨a0, a1, a2, a3, x0, x1, x2, x3, z0, z1⟩ := kL5; exact ⟨hgr _ (by omega) _ _ a0, hgr _ (by omega) _ _ a1, hgr _ (by omega) _ _ a2, hgr _ (by omega) _ _ a3, hgb _ _ x0, hgb _ _ x1, hgb _ _ x2, hgb _ _ x3, hgr _ (by omega) _ _ z0, hgr _ (by omega) _ _ z1⟩)))
            have HOn := Lib.hid (show OwQ W0.heap.size 31 w' v' (befL (y1, y2) ps (j + 1 + 1)) from by rw [HEn.out]; exact hown)
            have HSn := Lib.hid (show Slot w' gc 0 (.bool (bad || befB (y1, y2) ps (j + 1 + 1))) from by rw [HBn.out, ← Bool.or_assoc]; exact hS6)
            have HBu := Lib.hid hbu6
            clear hown h8 h8g hS6 kL6 kL5 g5 k5 k5' hbu6
            go_wp2_with fail
            go_roundw
            case rel => exact ⟨j + 1 + 1, by omega, by go_num, HOn.out, HSn.out, HBu.out⟩
            case measure => simp [intOf]; omega
          · have hc' : decide (u * y < 0) = false := by simpa using hc
            have hcn : (if crossY (y1, y2) ((p1, p2), p3, p4) ((q1, q2), q3, q4) = true then [backV ((p1, p2), p3, p4) ((q1, q2), q3, q4) (y1, y2)] else []) = [] := if_neg (by rw [HCr.out, hc']; simp)
            have HEn := Lib.hid (show befL (y1, y2) ps (j + 1 + 1) = befL (y1, y2) ps (j + 1) ++ (if (q3, q4) = (y1, y2) then [(q1, q2)] else []) from by rw [befL_next HHp.out HHq.out, hcn, List.append_nil])
            have HBn := Lib.hid (show befB (y1, y2) ps (j + 1 + 1) = befB (y1, y2) ps (j + 1) from by rw [befB_next HHp.out HHq.out]; unfold badPc; rw [HCr.out, hc', Bool.false_and, Bool.or_false])
            go_wp2_with fail
            go_roundw
            case rel => exact ⟨j + 1 + 1, by omega, by go_num, by rw [HEn.out]; exact HO2.out, by rw [HBn.out]; exact HSl2.out, hbu2⟩
            case measure => simp [intOf]; omega
        · have HE1 := Lib.hid (show (if (q3, q4) = (y1, y2) then [(q1, q2)] else []) = ([] : List Q) by rw [if_neg]; intro h; cases h; simp at e1)
          go_wp2_with fail
          go_name_world W1 hW1
          have hX1 : Below W0.heap.size wr W1 := by rw [← hW1]; go_grown
          have HB1 := Lib.hid (show W1.heap[wr.heap.size]? = some (.cells #[.int .i64 q1, .int .i64 q2, .int .i64 q3, .int .i64 q4] 51) from by rw [← hW1]; exact heap_alloc_new wr _)
          have HO1 := Lib.hid (show OwQ W0.heap.size 31 W1 u7 (befL (y1, y2) ps (j + 1) ++ (if (q3, q4) = (y1, y2) then [(q1, q2)] else [])) from by rw [HE1.out, List.append_nil, ← hW1]; exact HO.out.keep (by go_grown))
          clear hW1 HE1
          have hbu1 : But gc W0 W1 := But.then_below hbu hX1
          have HSl1 := Lib.hid (slot_below hX1 (by omega) HSl.out)
          have yr0' := (hX1.cell (p := ⟨w.heap.size, 0, none⟩) (by omega)).trans yr0
          have yr1' := (hX1.cell (p := ⟨w.heap.size, 1, none⟩) (by omega)).trans yr1
          have hz1 : wr.heap.size < W1.heap.size := (Array.getElem?_eq_some_iff.1 HB1.out).1
          have hBr1 := hBu0.trans hbu1
          clear hX1 HSl HO hbu hzr hBr d0 d1 d2 d3 yr0 yr1
          obtain ⟨a0, a1, a2, a3⟩ := HC.out j _ HHp.out
          replace a0 := cellU hBr1 (by omega) a0
          replace a1 := cellU hBr1 (by omega) a1
          replace a2 := cellU hBr1 (by omega) a2
          replace a3 := cellU hBr1 (by omega) a3
          obtain ⟨x0, x1, x2, x3⟩ := box4 HB1.out
          have hd0 : decide ((0 : Int) < (j : Int) + 1) = true := decide_eq_true (by omega)
          go_wp2_with fail
          refine wp_region_below (by kernel_rfl) (by kernel_rfl) ?_
          iterate 18 (first
            | (refine stepS rfl ?_; simp only [Act.put, List.setIfInBounds_toArray, List.set_cons_zero, List.set_cons_succ])
            | (refine stepV (v := ?_) rfl (fun W hW => ?_) ?_
               rotate_left
               focus
                 have qc0 := cellB hW.out a2
                 have qc1 := cellB hW.out a3
                 have qc2 := cellB hW.out x2
                 have qc3 := cellB hW.out x3
                 have qc4 := cellB hW.out yr0'
                 have qc5 := cellB hW.out yr1'
                 go_simp
                 try with_reducible rfl
                 done
               simp only [Act.put, List.setIfInBounds_toArray, List.set_cons_zero, List.set_cons_succ])
            | (refine stepC rfl (fun W hW => ?_) (fun W hW => callB hW (HU.out _)) ?_
               focus
                 go_simp
                 try with_reducible rfl
                 done
               simp only [Act.put, List.setIfInBounds_toArray, List.set_cons_zero, List.set_cons_succ])
            | (refine stepC rfl (fun W hW => ?_) (fun W hW => callB hW (HV.out _)) ?_
               focus
                 go_simp
                 try with_reducible rfl
                 done
               simp only [Act.put, List.setIfInBounds_toArray, List.set_cons_zero, List.set_cons_succ]))
          refine stepN ?_
          intro w2 hw2
          have hX2 := hw2.out
          have kL : Facts [(g, o + j * 4, Value.int .i64 p1), (g, o + j * 4 + 1, .int .i64 p2), (g, o + j * 4 + 2, .int .i64 p3), (g, o + j * 4 + 3, .int .i64 p4), (wr.heap.size, 0, .int .i64 q1), (wr.heap.size, 1, .int .i64 q2), (wr.heap.size, 2, .int .i64 q3), (wr.heap.size, 3, .int .i64 q4), (w.heap.size, 0, .int .i64 y1), (w.heap.size, 1, .int .i64 y2)] w2 := ⟨cellB hX2 a0, cellB hX2 a1, cellB hX2 a2, cellB hX2 a3, cellB hX2 x0, cellB hX2 x1, cellB hX2 x2, cellB hX2 x3, cellB hX2 yr0', cellB hX2 yr1'⟩
          have HO2 := Lib.hid (HO1.out.keep hX2)
          have HSl2 := Lib.hid (slotB hX2 HSl1.out)
          have hbu2 : But gc W0 w2 := hbu1.trans (But.of_below hX2 (Nat.le_refl _))
          have hz2 : W1.heap.size ≤ w2.heap.size := hX2.size
          have HB2 := Lib.hid ((hX2.block wr.heap.size (by omega)).trans HB1.out)
          clear hw2 hX2 a0 a1 a2 a3 x0 x1 x2 x3 yr0' yr1' HB1 HO1 HSl1 hbu1 hBr1
          by_cases hc : u * y < 0
          · have hc' : decide (u * y < 0) = true := by simpa using hc
            have HBk := Lib.hid (fun W bd (k : Slot W gc 0 (.bool bd)) => cBack_is p1 p2 p3 p4 q1 q2 q3 q4 y1 y2 r1 r2 bd _ gc W HPc.out HQc.out HRi.out k HRv.out rfl)
            have HNe := Lib.hid (show ∀ x ∈ [(g, o + j * 4, Value.int .i64 p1), (g, o + j * 4 + 1, .int .i64 p2), (g, o + j * 4 + 2, .int .i64 p3), (g, o + j * 4 + 3, .int .i64 p4), (wr.heap.size, 0, .int .i64 q1), (wr.heap.size, 1, .int .i64 q2), (wr.heap.size, 2, .int .i64 q3), (wr.heap.size, 3, .int .i64 q4), (w.heap.size, 0, .int .i64 y1), (w.heap.size, 1, .int .i64 y2)], x.1 ≠ gc by simp; omega)
            have HEn := Lib.hid (show befL (y1, y2) ps (j + 1 + 1) = befL (y1, y2) ps (j + 1) ++ (if (q3, q4) = (y1, y2) then [(q1, q2)] else []) ++ [(r1, r2)] from by rw [befL_next HHp.out HHq.out, if_pos (HCr.out.trans hc'), HRv.out])
            have HBn := Lib.hid (show befB (y1, y2) ps (j + 1 + 1) = (befB (y1, y2) ps (j + 1) || !backT ((p1, p2), p3, p4) ((q1, q2), q3, q4) (y1, y2)) from by rw [befB_next HHp.out HHq.out]; unfold badPc; rw [HCr.out, hc', Bool.true_and, back_flag])
            have HNo := Lib.hid (fun (v : Value) (W : World) (l : List Q) (h : OwQ W0.heap.size 31 W v l) => h.ne_low (g := gc) (by omega))
            have hlE : (if (q3, q4) = (y1, y2) then [(q1, q2)] else []).length ≤ 1 := by split <;> simp
            go_wp2_with fail
            go_region_held3 (fun w' => w'.cell? ⟨g, o + j * 4, none⟩ = some (.int .i64 p1) ∧ w'.cell? ⟨g, o + j * 4 + 1, none⟩ = some (.int .i64 p2) ∧ w'.cell? ⟨g, o + j * 4 + 2, none⟩ = some (.int .i64 p3) ∧ w'.cell? ⟨g, o + j * 4 + 3, none⟩ = some (.int .i64 p4) ∧ w'.cell? ⟨wr.heap.size, 0, none⟩ = some (.int .i64 q1) ∧ w'.cell? ⟨wr.heap.size, 1, none⟩ = some (.int .i64 q2) ∧ w'.cell? ⟨wr.heap.size, 2, none⟩ = some (.int .i64 q3) ∧ w'.cell? ⟨wr.heap.size, 3, none⟩ = some (.int .i64 q4) ∧ w'.cell? ⟨w.heap.size, 0, none⟩ = some (.int .i64 y1) ∧ w'.cell? ⟨w.heap.size, 1, none⟩ = some (.int .i64 y2))
              ((first | exact kL6 | exact kL5 | (refine Facts.keep kL5 ?_; go_grown; done) | (refine Facts.keep kL ?_; go_grown; done)))
              ((first
                | (go_at_call 161; (with_reducible refine (HBk.out _ _ (slotB ?_ HSl2.out)).mono ?_); (focus (go_grown; done)); rintro e w5 ⟨rfl, g5, k5'⟩; have k5 : But gc w2 w5 := (But.of_below (by go_grown : Below w2.heap.size w2 _) (Nat.le_refl _)).trans k5'; have kL5 := Facts.keepU kL k5 HNe.out; have ho5 := Lib.hid (HO2.out.keepU k5 (HNo.out _ _ _ HO2.out)); have hbu5 := hbu2.trans k5; have hz5 := k5.size; have HB5 := Lib.hid ((k5.block wr.heap.size (by omega) (by omega)).trans HB2.out); have HNb := Lib.hid (OwQ.ne_type ho5.out HB5.out (by decide)))
                | (refine step_append_rdg _ rfl _ _ rfl W0.heap.size _ _ _ [(r1, r2)] rfl (ho5.out.keep ?_) rfl ?_ ?_ ?_ ?_; (focus (go_grown; done)); (focus (refine OwQ.read (OwQ.one _ 0 31 r1 r2 (Nat.zero_le _)); done)); (focus (rw [List.length_append, List.length_singleton]; omega)); (focus (go_size; done)); intro v' w' hown h8 h8g; have hS6 := slot_below h8 (by omega) (slotB (by go_grown : Below w5.heap.size w5 _) g5); have hbu6 : But gc W0 w' := But.then_below hbu5 ((by go_grown : Below W0.heap.size w5 _).trans h8); have kL6 : Facts [(g, o + j * 4, Value.int .i64 p1), (g, o + j * 4 + 1, .int .i64 p2), (g, o + j * 4 + 2, .int .i64 p3), (g, o + j * 4 + 3, .int .i64 p4), (wr.heap.size, 0, .int .i64 q1), (wr.heap.size, 1, .int .i64 q2), (wr.heap.size, 2, .int .i64 q3), (wr.heap.size, 3, .int .i64 q4), (w.heap.size, 0, .int .i64 y1), (w.heap.size, 1, .int .i64 y2)] w' := by have hgr := fun b (hb : b < W0.heap.size) o u (hc : w5.cell? ⟨b, o, none⟩ = some u) => (h8.cell (p := ⟨b, o, none⟩) hb).trans (cellB (by go_grown : Below w5.heap.size w5 _) hc); have hgb := fun o u (hc : w5.cell? ⟨wr.heap.size, o, none⟩ = some u) => h8g.cell (cellB (by go_grown : Below w5.heap.size w5 _) hc) (fun e => HNb.out e.symm); obtain ⟨a0, a1, a2, a3, x0, x1, x2, x3, z0, z1⟩ := kL5; exact ⟨hgr _ (by omega) _ _ a0, hgr _ (by omega) _ _ a1, hgr _ (by omega) _ _ a2, hgr _ (by omega) _ _ a3, hgb _ _ x0, hgb _ _ x1, hgb _ _ x2, hgb _ _ x3, hgr _ (by omega) _ _ z0, hgr _ (by omega) _ _ z1⟩)))
            have HOn := Lib.hid (show OwQ W0.heap.size 31 w' v' (befL (y1, y2) ps (j + 1 + 1)) from by rw [HEn.out]; exact hown)
            have HSn := Lib.hid (show Slot w' gc 0 (.bool (bad || befB (y1, y2) ps (j + 1 + 1))) from by rw [HBn.out, ← Bool.or_assoc]; exact hS6)
            have HBu := Lib.hid hbu6
            clear hown h8 h8g hS6 kL6 kL5 g5 k5 k5' hbu6
            go_wp2_with fail
            go_roundw
            case rel => exact ⟨j + 1 + 1, by omega, by go_num, HOn.out, HSn.out, HBu.out⟩
            case measure => simp [intOf]; omega
          · have hc' : decide (u * y < 0) = false := by simpa using hc
            have hcn : (if crossY (y1, y2) ((p1, p2), p3, p4) ((q1, q2), q3, q4) = true then [backV ((p1, p2), p3, p4) ((q1, q2), q3, q4) (y1, y2)] else []) = [] := if_neg (by rw [HCr.out, hc']; simp)
            have HEn := Lib.hid (show befL (y1, y2) ps (j + 1 + 1) = befL (y1, y2) ps (j + 1) ++ (if (q3, q4) = (y1, y2) then [(q1, q2)] else []) from by rw [befL_next HHp.out HHq.out, hcn, List.append_nil])
            have HBn := Lib.hid (show befB (y1, y2) ps (j + 1 + 1) = befB (y1, y2) ps (j + 1) from by rw [befB_next HHp.out HHq.out]; unfold badPc; rw [HCr.out, hc', Bool.false_and, Bool.or_false])
            go_wp2_with fail
            go_roundw
            case rel => exact ⟨j + 1 + 1, by omega, by go_num, by rw [HEn.out]; exact HO2.out, by rw [HBn.out]; exact HSl2.out, hbu2⟩
            case measure => simp [intOf]; omega
        · have HE1 := Lib.hid (show (if (q3, q4) = (y1, y2) then [(q1, q2)] else []) = ([] : List Q) by rw [if_neg]; intro h; cases h; simp at e2)
          go_wp2_with fail
          go_name_world W1 hW1
          have hX1 : Below W0.heap.size wr W1 := by rw [← hW1]; go_grown
          have HB1 := Lib.hid (show W1.heap[wr.heap.size]? = some (.cells #[.int .i64 q1, .int .i64 q2, .int .i64 q3, .int .i64 q4] 51) from by rw [← hW1]; exact heap_alloc_new wr _)
          have HO1 := Lib.hid (show OwQ W0.heap.size 31 W1 u7 (befL (y1, y2) ps (j + 1) ++ (if (q3, q4) = (y1, y2) then [(q1, q2)] else [])) from by rw [HE1.out, List.append_nil, ← hW1]; exact HO.out.keep (by go_grown))
          clear hW1 HE1
          have hbu1 : But gc W0 W1 := But.then_below hbu hX1
          have HSl1 := Lib.hid (slot_below hX1 (by omega) HSl.out)
          have yr0' := (hX1.cell (p := ⟨w.heap.size, 0, none⟩) (by omega)).trans yr0
          have yr1' := (hX1.cell (p := ⟨w.heap.size, 1, none⟩) (by omega)).trans yr1
          have hz1 : wr.heap.size < W1.heap.size := (Array.getElem?_eq_some_iff.1 HB1.out).1
          have hBr1 := hBu0.trans hbu1
          clear hX1 HSl HO hbu hzr hBr d0 d1 d2 d3 yr0 yr1
          obtain ⟨a0, a1, a2, a3⟩ := HC.out j _ HHp.out
          replace a0 := cellU hBr1 (by omega) a0
          replace a1 := cellU hBr1 (by omega) a1
          replace a2 := cellU hBr1 (by omega) a2
          replace a3 := cellU hBr1 (by omega) a3
          obtain ⟨x0, x1, x2, x3⟩ := box4 HB1.out
          have hd0 : decide ((0 : Int) < (j : Int) + 1) = true := decide_eq_true (by omega)
          go_wp2_with fail
          refine wp_region_below (by kernel_rfl) (by kernel_rfl) ?_
          iterate 18 (first
            | (refine stepS rfl ?_; simp only [Act.put, List.setIfInBounds_toArray, List.set_cons_zero, List.set_cons_succ])
            | (refine stepV (v := ?_) rfl (fun W hW => ?_) ?_
               rotate_left
               focus
                 have qc0 := cellB hW.out a2
                 have qc1 := cellB hW.out a3
                 have qc2 := cellB hW.out x2
                 have qc3 := cellB hW.out x3
                 have qc4 := cellB hW.out yr0'
                 have qc5 := cellB hW.out yr1'
                 go_simp
                 try with_reducible rfl
                 done
               simp only [Act.put, List.setIfInBounds_toArray, List.set_cons_zero, List.set_cons_succ])
            | (refine stepC rfl (fun W hW => ?_) (fun W hW => callB hW (HU.out _)) ?_
               focus
                 go_simp
                 try with_reducible rfl
                 done
               simp only [Act.put, List.setIfInBounds_toArray, List.set_cons_zero, List.set_cons_succ])
            | (refine stepC rfl (fun W hW => ?_) (fun W hW => callB hW (HV.out _)) ?_
               focus
                 go_simp
                 try with_reducible rfl
                 done
               simp only [Act.put, List.setIfInBounds_toArray, List.set_cons_zero, List.set_cons_succ]))
          refine stepN ?_
          intro w2 hw2
          have hX2 := hw2.out
          have kL : Facts [(g, o + j * 4, Value.int .i64 p1), (g, o + j * 4 + 1, .int .i64 p2), (g, o + j * 4 + 2, .int .i64 p3), (g, o + j * 4 + 3, .int .i64 p4), (wr.heap.size, 0, .int .i64 q1), (wr.heap.size, 1, .int .i64 q2), (wr.heap.size, 2, .int .i64 q3), (wr.heap.size, 3, .int .i64 q4), (w.heap.size, 0, .int .i64 y1), (w.heap.size, 1, .int .i64 y2)] w2 := ⟨cellB hX2 a0, cellB hX2 a1, cellB hX2 a2, cellB hX2 a3, cellB hX2 x0, cellB hX2 x1, cellB hX2 x2, cellB hX2 x3, cellB hX2 yr0', cellB hX2 yr1'⟩
          have HO2 := Lib.hid (HO1.out.keep hX2)
          have HSl2 := Lib.hid (slotB hX2 HSl1.out)
          have hbu2 : But gc W0 w2 := hbu1.trans (But.of_below hX2 (Nat.le_refl _))
          have hz2 : W1.heap.size ≤ w2.heap.size := hX2.size
          have HB2 := Lib.hid ((hX2.block wr.heap.size (by omega)).trans HB1.out)
          clear hw2 hX2 a0 a1 a2 a3 x0 x1 x2 x3 yr0' yr1' HB1 HO1 HSl1 hbu1 hBr1
          by_cases hc : u * y < 0
          · have hc' : decide (u * y < 0) = true := by simpa using hc
            have HBk := Lib.hid (fun W bd (k : Slot W gc 0 (.bool bd)) => cBack_is p1 p2 p3 p4 q1 q2 q3 q4 y1 y2 r1 r2 bd _ gc W HPc.out HQc.out HRi.out k HRv.out rfl)
            have HNe := Lib.hid (show ∀ x ∈ [(g, o + j * 4, Value.int .i64 p1), (g, o + j * 4 + 1, .int .i64 p2), (g, o + j * 4 + 2, .int .i64 p3), (g, o + j * 4 + 3, .int .i64 p4), (wr.heap.size, 0, .int .i64 q1), (wr.heap.size, 1, .int .i64 q2), (wr.heap.size, 2, .int .i64 q3), (wr.heap.size, 3, .int .i64 q4), (w.heap.size, 0, .int .i64 y1), (w.heap.size, 1, .int .i64 y2)], x.1 ≠ gc by simp; omega)
            have HEn := Lib.hid (show befL (y1, y2) ps (j + 1 + 1) = befL (y1, y2) ps (j + 1) ++ (if (q3, q4) = (y1, y2) then [(q1, q2)] else []) ++ [(r1, r2)] from by rw [befL_next HHp.out HHq.out, if_pos (HCr.out.trans hc'), HRv.out])
            have HBn := Lib.hid (show befB (y1, y2) ps (j + 1 + 1) = (befB (y1, y2) ps (j + 1) || !backT ((p1, p2), p3, p4) ((q1, q2), q3, q4) (y1, y2)) from by rw [befB_next HHp.out HHq.out]; unfold badPc; rw [HCr.out, hc', Bool.true_and, back_flag])
            have HNo := Lib.hid (fun (v : Value) (W : World) (l : List Q) (h : OwQ W0.heap.size 31 W v l) => h.ne_low (g := gc) (by omega))
            have hlE : (if (q3, q4) = (y1, y2) then [(q1, q2)] else []).length ≤ 1 := by split <;> simp
            go_wp2_with fail
            go_region_held3 (fun w' => w'.cell? ⟨g, o + j * 4, none⟩ = some (.int .i64 p1) ∧ w'.cell? ⟨g, o + j * 4 + 1, none⟩ = some (.int .i64 p2) ∧ w'.cell? ⟨g, o + j * 4 + 2, none⟩ = some (.int .i64 p3) ∧ w'.cell? ⟨g, o + j * 4 + 3, none⟩ = some (.int .i64 p4) ∧ w'.cell? ⟨wr.heap.size, 0, none⟩ = some (.int .i64 q1) ∧ w'.cell? ⟨wr.heap.size, 1, none⟩ = some (.int .i64 q2) ∧ w'.cell? ⟨wr.heap.size, 2, none⟩ = some (.int .i64 q3) ∧ w'.cell? ⟨wr.heap.size, 3, none⟩ = some (.int .i64 q4) ∧ w'.cell? ⟨w.heap.size, 0, none⟩ = some (.int .i64 y1) ∧ w'.cell? ⟨w.heap.size, 1, none⟩ = some (.int .i64 y2))
              ((first | exact kL6 | exact kL5 | (refine Facts.keep kL5 ?_; go_grown; done) | (refine Facts.keep kL ?_; go_grown; done)))
              ((first
                | (go_at_call 161; (with_reducible refine (HBk.out _ _ (slotB ?_ HSl2.out)).mono ?_); (focus (go_grown; done)); rintro e w5 ⟨rfl, g5, k5'⟩; have k5 : But gc w2 w5 := (But.of_below (by go_grown : Below w2.heap.size w2 _) (Nat.le_refl _)).trans k5'; have kL5 := Facts.keepU kL k5 HNe.out; have ho5 := Lib.hid (HO2.out.keepU k5 (HNo.out _ _ _ HO2.out)); have hbu5 := hbu2.trans k5; have hz5 := k5.size; have HB5 := Lib.hid ((k5.block wr.heap.size (by omega) (by omega)).trans HB2.out); have HNb := Lib.hid (OwQ.ne_type ho5.out HB5.out (by decide)))
                | (refine step_append_rdg _ rfl _ _ rfl W0.heap.size _ _ _ [(r1, r2)] rfl (ho5.out.keep ?_) rfl ?_ ?_ ?_ ?_; (focus (go_grown; done)); (focus (refine OwQ.read (OwQ.one _ 0 31 r1 r2 (Nat.zero_le _)); done)); (focus (rw [List.length_append, List.length_singleton]; omega)); (focus (go_size; done)); intro v' w' hown h8 h8g; have hS6 := slot_below h8 (by omega) (slotB (by go_grown : Below w5.heap.size w5 _) g5); have hbu6 : But gc W0 w' := But.then_below hbu5 ((by go_grown : Below W0.heap.size w5 _).trans h8); have kL6 : Facts [(g, o + j * 4, Value.int .i64 p1), (g, o + j * 4 + 1, .int .i64 p2), (g, o + j * 4 + 2, .int .i64 p3), (g, o + j * 4 + 3, .int .i64 p4), (wr.heap.size, 0, .int .i64 q1), (wr.heap.size, 1, .int .i64 q2), (wr.heap.size, 2, .int .i64 q3), (wr.heap.size, 3, .int .i64 q4), (w.heap.size, 0, .int .i64 y1), (w.heap.size, 1, .int .i64 y2)] w' := by have hgr := fun b (hb : b < W0.heap.size) o u (hc : w5.cell? ⟨b, o, none⟩ = some u) => (h8.cell (p := ⟨b, o, none⟩) hb).trans (cellB (by go_grown : Below w5.heap.size w5 _) hc); have hgb := fun o u (hc : w5.cell? ⟨wr.heap.size, o, none⟩ = some u) => h8g.cell (cellB (by go_grown : Below w5.heap.size w5 _) hc) (fun e => HNb.out e.symm); obtain ⟨a0, a1, a2, a3, x0, x1, x2, x3, z0, z1⟩ := kL5; exact ⟨hgr _ (by omega) _ _ a0, hgr _ (by omega) _ _ a1, hgr _ (by omega) _ _ a2, hgr _ (by omega) _ _ a3, hgb _ _ x0, hgb _ _ x1, hgb _ _ x2, hgb _ _ x3, hgr _ (by omega) _ _ z0, hgr _ (by omega) _ _ z1⟩)))
            have HOn := Lib.hid (show OwQ W0.heap.size 31 w' v' (befL (y1, y2) ps (j + 1 + 1)) from by rw [HEn.out]; exact hown)
            have HSn := Lib.hid (show Slot w' gc 0 (.bool (bad || befB (y1, y2) ps (j + 1 + 1))) from by rw [HBn.out, ← Bool.or_assoc]; exact hS6)
            have HBu := Lib.hid hbu6
            clear hown h8 h8g hS6 kL6 kL5 g5 k5 k5' hbu6
            go_wp2_with fail
            go_roundw
            case rel => exact ⟨j + 1 + 1, by omega, by go_num, HOn.out, HSn.out, HBu.out⟩
            case measure => simp [intOf]; omega
          · have hc' : decide (u * y < 0) = false := by simpa using hc
            have hcn : (if crossY (y1, y2) ((p1, p2), p3, p4) ((q1, q2), q3, q4) = true then [backV ((p1, p2), p3, p4) ((q1, q2), q3, q4) (y1, y2)] else []) = [] := if_neg (by rw [HCr.out, hc']; simp)
            have HEn := Lib.hid (show befL (y1, y2) ps (j + 1 + 1) = befL (y1, y2) ps (j + 1) ++ (if (q3, q4) = (y1, y2) then [(q1, q2)] else []) from by rw [befL_next HHp.out HHq.out, hcn, List.append_nil])
            have HBn := Lib.hid (show befB (y1, y2) ps (j + 1 + 1) = befB (y1, y2) ps (j + 1) from by rw [befB_next HHp.out HHq.out]; unfold badPc; rw [HCr.out, hc', Bool.false_and, Bool.or_false])
            go_wp2_with fail
            go_roundw
            case rel => exact ⟨j + 1 + 1, by omega, by go_num, by rw [HEn.out]; exact HO2.out, by rw [HBn.out]; exact HSl2.out, hbu2⟩
            case measure => simp [intOf]; omega
    · obtain rfl : k = ps.length := by omega
      have HOk := Lib.hid (befL_ok (y := (y1, y2)) HM.out ps.length)
      have hlen := HLn.out ps.length
      have HZ := Lib.hid (HO.out.low (b := w.heap.size) (by omega))
      go_wp2_with fail
      refine (rising_is W0.heap.size _ _ _ HO.out HOk.out (by omega)).mono ?_
      rintro e w4 ⟨r4, rfl, os4, he, hb4⟩
      have hge : ∀ b, r4.ownBlock = some b → W0.heap.size ≤ b := fun b hb => (World.ownsRow.lt os4 b hb).1
      have B4 : Below W0.heap.size wr w4 := by
        obtain ⟨j, hj, hj2⟩ : ∃ j, W0.heap.size ≤ j ∧ ∀ b, u7.ownBlock = some b → b = j := by
          rcases hv : u7.ownBlock with _ | b
          · exact ⟨W0.heap.size, Nat.le_refl _, fun b hb => by simp at hb⟩
          · exact ⟨b, (World.ownsRow.lt HO.out b hv).1, fun c hc => by simpa using hc.symm⟩
        exact But.below (Below.refl _ _) (hb4 j hj2) hj hz0r
      have H4 := Lib.hid (And.intro (os4.low (b := w.heap.size) (by omega)) (And.intro (slot_below B4 (by omega) HSl.out) (hBu0.trans (But.then_below hbu B4))))
      clear os4 B4 hb4 hge
      go_wp2_with fail
      go_ret
      exact ⟨_, rfl, H4.out.1, H4.out.2.1, H4.out.2.2⟩

end Go.Proofs.YtkeajfgcjmhmiaaGreat
