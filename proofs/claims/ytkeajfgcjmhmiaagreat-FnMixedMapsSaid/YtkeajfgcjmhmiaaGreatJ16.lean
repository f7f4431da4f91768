/- Drawn maps with a place: orbiter. · Drawn maps out of bytes: DrawIsMap and its like, DrawValueAt, DrawPointsBefore. · Plain: the fixed points of a map and the fractions before a value. · Plain: the fractions of a map before a value. · The fraction at which a piece has a value: the program's back, the reference's imBack. -/
import Derived.Test.YtkeajfgcjmhmiaaGreatJ15
import Derived.Test.YtkeajfgcjmhmiaaGreatJ10
namespace Go.Proofs.YtkeajfgcjmhmiaaGreat
open Go.RowKit

theorem OwP.setO {b k o : Nat} {e : TypeId} {w : World} {u : Value} {ps : List Pt} (h : OwP b e w u ps) (hk : u.ownBlock ≠ some k) {x : Value} : OwP b e (w.setCell ⟨k, o, none⟩ x) u ps := h.keepU (But.setCell (But.refl k w) x) hk
end Go.Proofs.YtkeajfgcjmhmiaaGreat

namespace Go.Proofs.YtkeajfgcjmhmiaaGreat
open Go.RowKit

theorem RdN.codeF {w : World} {v : Value} {bs : List Int} (h : RdN .u8 w v bs) (hb : ∀ x ∈ bs, 0 ≤ x ∧ x ≤ 255) {W : World} (hX : Below w.heap.size w W) {g : Nat} (hg : w.heap.size ≤ g) : Code g W v :=
  ⟨bs, h.keep hX, hb, fun hne b o n c he => by
    obtain ⟨A, c2, rfl, _, _, h3⟩ := h
    obtain ⟨b2, o2, rfl, hlt, _⟩ := h3 hne
    injection he with h1 _ _
    injection h1 with h1
    injection h1 with h1
    omega⟩
end Go.Proofs.YtkeajfgcjmhmiaaGreat

namespace Go.Proofs.YtkeajfgcjmhmiaaGreat
open Go.RowKit

/-- All pieces. -/
def pcs (ps : List Pt) : List (Pt × Pt) := ps.zip ps.tail
theorem pcs_len (ps : List Pt) : (pcs ps).length = ps.length - 1 := by
  unfold pcs; rw [List.length_zip, List.length_tail]; omega
theorem pcs_get {ps : List Pt} {i : Nat} {p q : Pt} (hp : ps[i]? = some p) (hq : ps[i + 1]? = some q) : (pcs ps)[i]? = some (p, q) := by
  unfold pcs
  rw [List.getElem?_zip_eq_some, List.getElem?_tail]
  exact ⟨hp, hq⟩
theorem mem_pcs {ps : List Pt} {s : Pt × Pt} : s ∈ pcs ps ↔ ∃ i : Nat, ps[i]? = some s.1 ∧ ps[i + 1]? = some s.2 := by
  constructor
  · intro h
    obtain ⟨i, hi⟩ := List.getElem?_of_mem h
    unfold pcs at hi
    rw [List.getElem?_zip_eq_some, List.getElem?_tail] at hi
    exact ⟨i, hi⟩
  · rintro ⟨i, h1, h2⟩
    exact List.mem_of_getElem? (pcs_get h1 h2)
/-- In a list of two or more, every member is an end of a piece. -/
theorem pcs_ends {ps : List Pt} (h : 2 ≤ ps.length) (p : Pt) : p ∈ ps ↔ ∃ s ∈ pcs ps, p = s.1 ∨ p = s.2 := by
  constructor
  · intro hp
    obtain ⟨i, hi⟩ := List.getElem?_of_mem hp
    have hl := (List.getElem?_eq_some_iff.1 hi).1
    by_cases h0 : i + 1 < ps.length
    · exact ⟨(p, ps[i + 1]), mem_pcs.2 ⟨i, hi, List.getElem?_eq_getElem h0⟩, Or.inl rfl⟩
    · refine ⟨(ps[i - 1], p), mem_pcs.2 ⟨i - 1, List.getElem?_eq_getElem (by omega), ?_⟩, Or.inr rfl⟩
      rw [show i - 1 + 1 = i by omega]; exact hi
  · rintro ⟨s, hs, h⟩
    obtain ⟨i, h1, h2⟩ := mem_pcs.1 hs
    rcases h with rfl | rfl
    · exact List.mem_of_getElem? h1
    · exact List.mem_of_getElem? h2

theorem toR_mul {a b : Int} (h : okQ a b = true) : toR (a, b) * (b : Rat) = (a : Rat) := by
  unfold toR; exact Rat.div_mul_cancel (den_ne h)

/-- Coordinates. -/
def CoP (p : Pt) : Prop := coordQ p.1.1 p.1.2 = true ∧ coordQ p.2.1 p.2.2 = true

theorem bd2 {a b : Int} {m k : Int} (h1 : -m ≤ a ∧ a ≤ m) (h2 : -k ≤ b ∧ b ≤ k) (hm : 0 ≤ m) : -(m * k) ≤ a * b ∧ a * b ≤ m * k := by
  have hk : 0 ≤ k := by omega
  have e1 : (a * b).natAbs ≤ (m * k).natAbs := by
    rw [Int.natAbs_mul, Int.natAbs_mul]
    exact Nat.mul_le_mul (by omega) (by omega)
  have e2 : 0 ≤ m * k := Int.mul_nonneg hm hk
  omega

theorem sgn_mul {a b : Int} (ha : a = -1 ∨ a = 0 ∨ a = 1) (hb : b = -1 ∨ b = 0 ∨ b = 1) : a * b < 0 ↔ (a < 0 ∧ 0 < b) ∨ (0 < a ∧ b < 0) := by
  rcases ha with rfl | rfl | rfl <;> rcases hb with rfl | rfl | rfl <;> decide
theorem okMap_pc {ps : List Pt} (h : okMap ps = true) {s : Pt × Pt} (hs : s ∈ pcs ps) : CoP s.1 ∧ CoP s.2 := by
  obtain ⟨i, h1, h2⟩ := mem_pcs.1 hs
  exact ⟨okMap_coord h h1, okMap_coord h h2⟩
end Go.Proofs.YtkeajfgcjmhmiaaGreat

namespace Go.Proofs.YtkeajfgcjmhmiaaGreat
open Go.RowKit

theorem keep_ok {N D : Int} {a b : Int} {t : Bool} (h : lowQ N D = (a, b, t)) : okQ (keepQ (a, b, t)).1 (keepQ (a, b, t)).2 = true := by
  unfold keepQ
  cases t with
  | true => exact (lowQ_ok h).1 rfl
  | false => exact (by decide : okQ 0 1 = true)
theorem keepAdd_ok (n1 d1 n2 d2 : Int) : okQ (keepQ (addQ n1 d1 n2 d2)).1 (keepQ (addQ n1 d1 n2 d2)).2 = true := by
  unfold addQ
  split
  · exact keep_ok rfl
  · decide

/-- The fraction at which a piece has a value, as the reference has it. -/
def backQ (p q : Pt) (y : Q) : Int × Int × Bool :=
  if (subQ y.1 y.2 p.2.1 p.2.2).2.2 = true then
    if (divQ (subQ y.1 y.2 p.2.1 p.2.2).1 (subQ y.1 y.2 p.2.1 p.2.2).2.1 (slopeQ p q).1 (slopeQ p q).2).2.2 = true then
      addQ p.1.1 p.1.2 (divQ (subQ y.1 y.2 p.2.1 p.2.2).1 (subQ y.1 y.2 p.2.1 p.2.2).2.1 (slopeQ p q).1 (slopeQ p q).2).1 (divQ (subQ y.1 y.2 p.2.1 p.2.2).1 (subQ y.1 y.2 p.2.1 p.2.2).2.1 (slopeQ p q).1 (slopeQ p q).2).2.1
    else (0, 0, false)
  else (0, 0, false)
/-- .. as the program has it. -/
def backD (p : Pt) (y : Q) : Int × Int × Bool := subQ y.1 y.2 p.2.1 p.2.2
def backM (p q : Pt) (y : Q) : Int × Int × Bool := divQ (keepQ (backD p y)).1 (keepQ (backD p y)).2 (slopeQ p q).1 (slopeQ p q).2
def backR (p q : Pt) (y : Q) : Int × Int × Bool := addQ p.1.1 p.1.2 (keepQ (backM p q y)).1 (keepQ (backM p q y)).2
def backV (p q : Pt) (y : Q) : Q := keepQ (backR p q y)
def backT (p q : Pt) (y : Q) : Bool := (backD p y).2.2 && (backM p q y).2.2 && (backR p q y).2.2
theorem backV_ok (p q : Pt) (y : Q) : okQ (backV p q y).1 (backV p q y).2 = true := keepAdd_ok ..
theorem back_flag (p q : Pt) (y : Q) : backT p q y = (backQ p q y).2.2 := by
  unfold backT backQ
  show ((backD p y).2.2 && (backM p q y).2.2 && (backR p q y).2.2) = _
  rw [show subQ y.1 y.2 p.2.1 p.2.2 = backD p y from rfl]
  by_cases h : (backD p y).2.2 = true
  · rw [if_pos h]
    have e1 : keepQ (backD p y) = ((backD p y).1, (backD p y).2.1) := by unfold keepQ; rw [if_pos h]
    have e2 : backM p q y = divQ (backD p y).1 (backD p y).2.1 (slopeQ p q).1 (slopeQ p q).2 := by unfold backM; rw [e1]
    rw [← e2, h]
    by_cases k : (backM p q y).2.2 = true
    · rw [if_pos k, k]
      have e3 : keepQ (backM p q y) = ((backM p q y).1, (backM p q y).2.1) := by unfold keepQ; rw [if_pos k]
      unfold backR; rw [e3]; rfl
    · rw [if_neg k]; simp only [Bool.not_eq_true] at k; rw [k]; rfl
  · rw [if_neg h]; simp only [Bool.not_eq_true] at h; rw [h]; rfl
theorem back_value {p q : Pt} {y : Q} (h : (backQ p q y).2.2 = true) : backV p q y = ((backQ p q y).1, (backQ p q y).2.1) := by
  have h0 := h
  unfold backQ at h ⊢
  rw [show subQ y.1 y.2 p.2.1 p.2.2 = backD p y from rfl] at h ⊢
  by_cases h1 : (backD p y).2.2 = true
  · rw [if_pos h1] at h ⊢
    have e1 : keepQ (backD p y) = ((backD p y).1, (backD p y).2.1) := by unfold keepQ; rw [if_pos h1]
    have e2 : backM p q y = divQ (backD p y).1 (backD p y).2.1 (slopeQ p q).1 (slopeQ p q).2 := by unfold backM; rw [e1]
    rw [← e2] at h ⊢
    by_cases k : (backM p q y).2.2 = true
    · rw [if_pos k] at h ⊢
      have e3 : keepQ (backM p q y) = ((backM p q y).1, (backM p q y).2.1) := by unfold keepQ; rw [if_pos k]
      have e4 : backR p q y = addQ p.1.1 p.1.2 (backM p q y).1 (backM p q y).2.1 := by unfold backR; rw [e3]
      rw [← e4] at h ⊢
      unfold backV keepQ; rw [if_pos h]
    · rw [if_neg k] at h; simp at h
  · rw [if_neg h1] at h; simp at h

/-- The value lies between those of the ends. -/
def crossY (y : Q) (p q : Pt) : Bool := decide (cmpQ p.2.1 p.2.2 y.1 y.2 * cmpQ q.2.1 q.2.2 y.1 y.2 < 0)
def befPc (y : Q) (s : Pt × Pt) : List Q :=
  (if s.1.2 = y then [s.1.1] else []) ++ (if s.2.2 = y then [s.2.1] else []) ++ (if crossY y s.1 s.2 = true then [((backQ s.1 s.2 y).1, (backQ s.1 s.2 y).2.1)] else [])
def badPc (y : Q) (s : Pt × Pt) : Bool := crossY y s.1 s.2 && !(backQ s.1 s.2 y).2.2
def befOk (y : Q) (ps : List Pt) : Bool := !(pcs ps).any (badPc y)
def befQ (y : Q) (ps : List Pt) : List Q := setQ ((pcs ps).flatMap (befPc y))
/-- .. as the program lists them: behind the first point. -/
def befI (y : Q) (s : Pt × Pt) : List Q := (if s.2.2 = y then [s.2.1] else []) ++ (if crossY y s.1 s.2 = true then [backV s.1 s.2 y] else [])
/-- .. all points before the k-th. -/
def befL (y : Q) (ps : List Pt) (k : Nat) : List Q :=
  ((ps.take k).take 1).flatMap (fun p => if p.2 = y then [p.1] else []) ++ ((pcs ps).take (k - 1)).flatMap (befI y)
def befB (y : Q) (ps : List Pt) (k : Nat) : Bool := ((pcs ps).take (k - 1)).any (badPc y)

theorem befPc_ok {y : Q} {ps : List Pt} (h : okMap ps = true) (hb : befOk y ps = true) : OkL ((pcs ps).flatMap (befPc y)) := fun x hx => by
  obtain ⟨s, hs, hm⟩ := List.mem_flatMap.1 hx
  obtain ⟨c1, c2⟩ := okMap_pc h hs
  unfold befPc at hm
  rcases List.mem_append.1 hm with hm | hm
  · rcases List.mem_append.1 hm with hm | hm
    · split at hm
      · obtain rfl := List.mem_singleton.1 hm
        exact unitQ_ok (coordQ_unit c1.1)
      · simp at hm
    · split at hm
      · obtain rfl := List.mem_singleton.1 hm
        exact unitQ_ok (coordQ_unit c2.1)
      · simp at hm
  · split at hm
    · rename_i hc
      obtain rfl := List.mem_singleton.1 hm
      have hf : (backQ s.1 s.2 y).2.2 = true := by
        unfold befOk at hb
        rw [Bool.not_eq_true', List.any_eq_false] at hb
        have := hb s hs
        unfold badPc at this
        rw [hc] at this
        simpa using this
      rw [← back_value hf]
      exact backV_ok ..
    · simp at hm
theorem befL_ok {y : Q} {ps : List Pt} (h : okMap ps = true) (k : Nat) : OkL (befL y ps k) := fun x hx => by
  unfold befL at hx
  rcases List.mem_append.1 hx with hx | hx
  · obtain ⟨p, hp, hm⟩ := List.mem_flatMap.1 hx
    split at hm
    · obtain rfl := List.mem_singleton.1 hm
      obtain ⟨i, hi⟩ := List.getElem?_of_mem (List.mem_of_mem_take (List.mem_of_mem_take hp))
      exact unitQ_ok (coordQ_unit (okMap_coord h hi).1)
    · simp at hm
  · obtain ⟨s, hs, hm⟩ := List.mem_flatMap.1 hx
    obtain ⟨c1, c2⟩ := okMap_pc h (List.mem_of_mem_take hs)
    unfold befI at hm
    rcases List.mem_append.1 hm with hm | hm
    · split at hm
      · obtain rfl := List.mem_singleton.1 hm
        exact unitQ_ok (coordQ_unit c2.1)
      · simp at hm
    · split at hm
      · obtain rfl := List.mem_singleton.1 hm
        exact backV_ok ..
      · simp at hm
theorem bef_mem {y : Q} {ps : List Pt} (h2 : 2 ≤ ps.length) (hb : befOk y ps = true) (x : Q) : x ∈ befL y ps ps.length ↔ x ∈ (pcs ps).flatMap (befPc y) := by
  have hv : ∀ s ∈ pcs ps, crossY y s.1 s.2 = true → backV s.1 s.2 y = ((backQ s.1 s.2 y).1, (backQ s.1 s.2 y).2.1) := fun s hs hc => by
    refine back_value ?_
    unfold befOk at hb
    rw [Bool.not_eq_true', List.any_eq_false] at hb
    have := hb s hs
    unfold badPc at this
    rw [hc] at this
    simpa using this
  have e0 : befL y ps ps.length = (ps.take 1).flatMap (fun p => if p.2 = y then [p.1] else []) ++ (pcs ps).flatMap (befI y) := by
    unfold befL
    rw [List.take_length, List.take_of_length_le (l := pcs ps) (by rw [pcs_len]; exact Nat.le_refl _)]
  rw [e0, List.mem_append, List.mem_flatMap, List.mem_flatMap, List.mem_flatMap]
  have hend := pcs_ends h2
  constructor
  · rintro (⟨p, hp, hm⟩ | ⟨s, hs, hm⟩)
    · obtain ⟨s, hs, he⟩ := (hend p).1 (List.mem_of_mem_take hp)
      split at hm
      · rename_i hy
        refine ⟨s, hs, ?_⟩
        unfold befPc
        rw [List.mem_append, List.mem_append]
        rcases he with rfl | rfl
        · exact Or.inl (Or.inl (by rw [if_pos hy]; exact hm))
        · exact Or.inl (Or.inr (by rw [if_pos hy]; exact hm))
      · simp at hm
    · refine ⟨s, hs, ?_⟩
      unfold befI at hm
      unfold befPc
      rw [List.mem_append, List.mem_append]
      rcases List.mem_append.1 hm with hm | hm
      · exact Or.inl (Or.inr hm)
      · refine Or.inr ?_
        split at hm
        · rename_i hc
          rw [if_pos hc, ← hv s hs hc]; exact hm
        · simp at hm
  · rintro ⟨s, hs, hm⟩
    unfold befPc at hm
    rw [List.mem_append, List.mem_append] at hm
    rcases hm with (hm | hm) | hm
    · split at hm
      · rename_i hy
        obtain rfl := List.mem_singleton.1 hm
        obtain ⟨i, h1, h3⟩ := mem_pcs.1 hs
        rcases i with _ | i
        · refine Or.inl ⟨s.1, ?_, by rw [if_pos hy]; simp⟩
          have : (ps.take 1)[0]? = some s.1 := by rw [List.getElem?_take_of_lt (by omega)]; exact h1
          exact List.mem_of_getElem? this
        · have hi : i < ps.length := by have := (List.getElem?_eq_some_iff.1 h1).1; omega
          refine Or.inr ⟨(ps[i], s.1), mem_pcs.2 ⟨i, List.getElem?_eq_getElem hi, h1⟩, ?_⟩
          unfold befI; rw [if_pos hy]; simp
      · simp at hm
    · split at hm
      · rename_i hy
        refine Or.inr ⟨s, hs, ?_⟩
        unfold befI; rw [if_pos hy]; exact List.mem_append_left _ hm
      · simp at hm
    · split at hm
      · rename_i hc
        refine Or.inr ⟨s, hs, ?_⟩
        unfold befI; rw [if_pos hc, hv s hs hc]; exact List.mem_append_right _ hm
      · simp at hm
theorem bef_set {y : Q} {ps : List Pt} (h : okMap ps = true) (h2 : 2 ≤ ps.length) (hb : befOk y ps = true) : setQ (befL y ps ps.length) = befQ y ps :=
  setQ_of (befPc_ok h hb) (setQ_up (befL_ok h _)) (fun x => by rw [setQ_mem, bef_mem h2 hb])
theorem befB_end (y : Q) (ps : List Pt) : befB y ps ps.length = !befOk y ps := by
  unfold befB befOk
  rw [List.take_of_length_le (by rw [pcs_len]; exact Nat.le_refl _), Bool.not_not]

end Go.Proofs.YtkeajfgcjmhmiaaGreat

namespace Go.Proofs.YtkeajfgcjmhmiaaGreat
open Go.RowKit

set_option maxRecDepth 100000 in
set_option maxHeartbeats 1600000 in
theorem cBack_is (p1 p2 p3 p4 q1 q2 q3 q4 y1 y2 r1 r2 : Int) (bad bad' : Bool) (g : Nat) (w : World) (hp : CoP ((p1, p2), p3, p4)) (hq : CoP ((q1, q2), q3, q4)) (hl : lessQ p1 p2 q1 q2 = true) (hs : Slot w g 0 (.bool bad))
    (hr : backV ((p1, p2), p3, p4) ((q1, q2), q3, q4) (y1, y2) = (r1, r2)) (hb : (bad || !backT ((p1, p2), p3, p4) ((q1, q2), q3, q4) (y1, y2)) = bad') :
    Calls Tryz.prog 161 #[.pointer (some ⟨g, 0, none⟩), .agg #[.int .i64 p1, .int .i64 p2, .int .i64 p3, .int .i64 p4], .agg #[.int .i64 q1, .int .i64 q2, .int .i64 q3, .int .i64 q4], .agg #[.int .i64 y1, .int .i64 y2]] w (KeepEnd g r1 r2 bad' w) := by
  have hg := lt_of_cell hs.1
  obtain ⟨⟨s1, s2⟩, hsl⟩ : ∃ s, slopeQ ((p1, p2), p3, p4) ((q1, q2), q3, q4) = s := ⟨_, rfl⟩
  have HSl := Lib.hid (slope_is hp.1 hp.2 hq.1 hq.2 hl hsl)
  have bp3 : Sm p3 := (Sm.of_ok (unitQ_ok (coordQ_unit hp.2))).1
  unfold backV backR backM backD at hr
  unfold backT backR backM backD at hb
  simp only [hsl] at hr hb
  obtain ⟨⟨d1, d2⟩, hd⟩ : ∃ d, keepQ (subQ y1 y2 p3 p4) = d := ⟨_, rfl⟩
  rw [hd] at hr hb
  obtain ⟨⟨m1, m2⟩, hm⟩ : ∃ m, keepQ (divQ d1 d2 s1 s2) = m := ⟨_, rfl⟩
  simp only [hm] at hr hb
  have HD := Lib.hid (fun W bd (k : Slot W g 0 (.bool bd)) => cSub_any y1 y2 p3 p4 d1 d2 bd _ g W k (by unfold Sm at bp3; omega) hd rfl)
  have HM := Lib.hid (fun W bd (k : Slot W g 0 (.bool bd)) => cDiv_any d1 d2 s1 s2 m1 m2 bd _ g W k hm rfl)
  have HR := Lib.hid (fun W bd (k : Slot W g 0 (.bool bd)) => cAdd_any p1 p2 m1 m2 r1 r2 bd _ g W k hr rfl)
  have HBd := Lib.hid (show (((bad || !(subQ y1 y2 p3 p4).2.2) || !(divQ d1 d2 s1 s2).2.2) || !(addQ p1 p2 m1 m2).2.2) = bad' from by
    rw [← hb]; cases bad <;> cases (subQ y1 y2 p3 p4).2.2 <;> cases (divQ d1 d2 s1 s2).2.2 <;> cases (addQ p1 p2 m1 m2).2.2 <;> rfl)
  have HS := Lib.hid hs
  clear hp hq hl hs hr hb hsl hd hm bp3
  go_enter Tryz.func161, Tryz.ntmps161
  go_wp2_with fail
  go_name_world W hW
  have kL : Facts [(w.heap.size, 0, .int .i64 p1), (w.heap.size, 1, .int .i64 p2), (w.heap.size, 2, .int .i64 p3), (w.heap.size, 3, .int .i64 p4), (w.heap.size + 1, 0, .int .i64 q1), (w.heap.size + 1, 1, .int .i64 q2), (w.heap.size + 1, 2, .int .i64 q3), (w.heap.size + 1, 3, .int .i64 q4), (w.heap.size + 2, 0, .int .i64 y1), (w.heap.size + 2, 1, .int .i64 y2)] W := by rw [← hW]; simp [Facts, go_sem]
  have R0 : Slot W (w.heap.size + 3) 0 (.int .i64 0) := by rw [← hW]; exact ⟨by simp [go_sem], by simp [go_sem]⟩
  have R1 : Slot W (w.heap.size + 3) 1 (.int .i64 0) := by rw [← hW]; exact ⟨by simp [go_sem], by simp [go_sem]⟩
  have hB : Below w.heap.size w W := by rw [← hW]; go_grown
  have HSW := Lib.hid (slotB hB HS.out)
  have hne : ∀ x ∈ [(w.heap.size, 0, Value.int .i64 p1), (w.heap.size, 1, .int .i64 p2), (w.heap.size, 2, .int .i64 p3), (w.heap.size, 3, .int .i64 p4), (w.heap.size + 1, 0, .int .i64 q1), (w.heap.size + 1, 1, .int .i64 q2), (w.heap.size + 1, 2, .int .i64 q3), (w.heap.size + 1, 3, .int .i64 q4), (w.heap.size + 2, 0, .int .i64 y1), (w.heap.size + 2, 1, .int .i64 y2)], x.1 ≠ g := by simp; omega
  have HNe := Lib.hid hne
  have HR0 := Lib.hid (And.intro R0 R1)
  clear hW hne R0 R1
  go_region_held3 (fun w' => w'.cell? ⟨w.heap.size, 0, none⟩ = some (.int .i64 p1) ∧ w'.cell? ⟨w.heap.size, 1, none⟩ = some (.int .i64 p2) ∧ w'.cell? ⟨w.heap.size, 2, none⟩ = some (.int .i64 p3) ∧ w'.cell? ⟨w.heap.size, 3, none⟩ = some (.int .i64 p4) ∧ w'.cell? ⟨w.heap.size + 1, 0, none⟩ = some (.int .i64 q1) ∧ w'.cell? ⟨w.heap.size + 1, 1, none⟩ = some (.int .i64 q2) ∧ w'.cell? ⟨w.heap.size + 1, 2, none⟩ = some (.int .i64 q3) ∧ w'.cell? ⟨w.heap.size + 1, 3, none⟩ = some (.int .i64 q4) ∧ w'.cell? ⟨w.heap.size + 2, 0, none⟩ = some (.int .i64 y1) ∧ w'.cell? ⟨w.heap.size + 2, 1, none⟩ = some (.int .i64 y2))
    ((first | exact kL4 | exact kL3 | exact kL2 | exact kL1 | exact kL | (refine Facts.keep kL ?_; go_grown; done) | (refine Facts.put (Facts.put kL4 ?_) ?_ <;> (simp; omega))))
    ((first
      | (go_at_call 155; (with_reducible refine (HD.out _ bad (slotB (w1 := _) ?hk1 HSW.out)).mono ?_); (case hk1 => go_grown); rintro e w1 ⟨rfl, g1, k1⟩; have hN1 : But g W w1 := But.next (But.refl g W) (B := W.heap.size) (by go_grown) (Nat.le_refl _) |>.trans k1; have kL1 := Facts.keepU kL hN1 HNe.out)
      | (go_at_call 149; (with_reducible refine (HSl.out _ _).mono ?_); rintro e w2 ⟨rfl, hb2⟩; have hN2 : But g W w2 := hN1.trans (But.of_below hb2 (Nat.le_refl _)); have g2 := slotB hb2 g1; have kL2 := Facts.keepU kL hN2 HNe.out)
      | (go_at_call 178; (with_reducible refine (HM.out _ _ g2).mono ?_); rintro e w3 ⟨rfl, g3, k3⟩; have hN3 := hN2.trans k3; have kL3 := Facts.keepU kL hN3 HNe.out)
      | (go_at_call 176; (with_reducible refine (HR.out _ _ g3).mono ?_); rintro e w4 ⟨rfl, g4, k4⟩; have hN4 := hN3.trans k4; have kL4 := Facts.keepU kL hN4 HNe.out; obtain ⟨q0, z0⟩ := slotU hN4 (new_ne hg 3) HR0.out.1; obtain ⟨q1, z1⟩ := slotU hN4 (new_ne hg 3) HR0.out.2)))
  go_wp2_with fail
  refine bodyPost_ret (v := .agg #[.int .i64 r1, .int .i64 r2]) (by simp [results, Tryz.results161, go_sem, q0, q1]) rfl ⟨rfl, ?_, ?_⟩
  · rw [HBd.out] at g4
    refine slotS (slotS g4 ?_) ?_ <;> simp <;> omega
  · refine But.setNew (But.setNew ((But.of_below hB (Nat.le_refl _)).trans hN4) ?_ _) ?_ _ <;> omega

end Go.Proofs.YtkeajfgcjmhmiaaGreat
