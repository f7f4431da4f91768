/- coTwo; AreSameMap of both. · What the joined map is: a list of points, risen; made of both. -/
import Derived.Test.YtkeajfgcjmhmiaaGreatJ25
namespace Go.Proofs.YtkeajfgcjmhmiaaGreat
open Go.RowKit

def sameQ (ps qs : List Pt) : Bool × Bool := if okMap ps = true ∧ okMap qs = true then (decide (simpleQ ps = simpleQ qs), true) else (false, false)

set_option maxHeartbeats 800000 in
theorem coTwo_is (ps qs : List Pt) (v u : Value) (t : Bool) (ht : (okMap ps && okMap qs) = t) (w : World) (hv : RdP w v ps) (hu : RdP w u qs) (hn : ps.length ≤ 1048576) (hk : qs.length ≤ 1048576) :
    Calls Tryz.prog 69 #[v, u] w fun e w' => e = .returned (.bool t) ∧ Below w.heap.size w w' := by
  have HV := Lib.hid hv
  have HU := Lib.hid hu
  rcases hm : okMap ps with _ | _
  · obtain rfl : false = t := by rw [← ht, hm]; rfl
    have HM := Lib.hid hm
    clear hv hu ht hm
    go_enter Tryz.func69, Tryz.ntmps69
    go_wp2_with fail
    refine (imGood_is ps v false _ (HV.out.keep (by go_grown)) hn HM.out).mono ?_
    rintro e w1 ⟨rfl, hb⟩
    have hX : Below w.heap.size w w1 := nextX (by go_grown) hb
    have hB : Below w.heap.size w w1 := hX
    clear hb hX
    go_wp2_with fail
    go_ret
    exact ⟨rfl, hB⟩
  · have HM := Lib.hid hm
    have HK := Lib.hid (show okMap qs = t by rw [← ht, hm]; rfl)
    clear hv hu ht hm
    go_enter Tryz.func69, Tryz.ntmps69
    go_wp2_with fail
    refine (imGood_is ps v true _ (HV.out.keep (by go_grown)) hn HM.out).mono ?_
    rintro e w1 ⟨rfl, hb⟩
    have hX : Below w.heap.size w w1 := nextX (by go_grown) hb
    have hB : Below w.heap.size w w1 := hX
    clear hb hX
    go_wp2_with fail
    refine (imGood_is qs u t _ (HU.out.keep (nextX hB (by go_grown))) hk HK.out).mono ?_
    rintro e w2 ⟨rfl, hb⟩
    have hX : Below w1.heap.size w1 w2 := nextX (by go_grown) hb
    replace hB := nextW hB hX
    clear hb hX
    go_wp2_with fail
    go_ret
    exact ⟨rfl, hB⟩

set_option maxHeartbeats 800000 in
theorem iAreSameMap_is (ps qs : List Pt) (v u : Value) (a t : Bool) (hl : sameQ ps qs = (a, t)) (w : World) (hv : RdP w v ps) (hu : RdP w u qs) (hn : ps.length ≤ 1048576) (hk : qs.length ≤ 1048576) :
    Calls Tryz.prog 23 #[v, u] w fun e w' => e = .returned (.tuple #[.bool a, .bool t]) ∧ Below w.heap.size w w' := by
  have HV := Lib.hid hv
  have HU := Lib.hid hu
  by_cases hm : okMap ps = true ∧ okMap qs = true
  · obtain ⟨rfl, rfl⟩ : decide (simpleQ ps = simpleQ qs) = a ∧ true = t := by unfold sameQ at hl; rw [if_pos hm] at hl; exact Prod.mk.inj hl
    have HM := Lib.hid hm
    have l1 := okMap_len hm.1
    have l2 := okMap_len hm.2
    clear hv hu hl hm
    go_enter Tryz.func23, Tryz.ntmps23
    go_wp2_with fail
    refine (isMap_is ps v true _ (HV.out.keep (by go_grown)) hn HM.out.1).mono ?_
    rintro e w1 ⟨rfl, hb⟩
    have hX : Below w.heap.size w w1 := nextX (by go_grown) hb
    have hB : Below w.heap.size w w1 := hX
    clear hb hX
    go_wp2_with fail
    refine (isMap_is qs u true _ (HU.out.keep (nextX hB (by go_grown))) hk HM.out.2).mono ?_
    rintro e w2 ⟨rfl, hb⟩
    have hX : Below w1.heap.size w1 w2 := nextX (by go_grown) hb
    replace hB := nextW hB hX
    clear hb hX
    go_wp2_with fail
    refine (simple_is ps v _ (HV.out.keep (nextX hB (by go_grown))) (okMap_riseC HM.out.1) (by omega)).mono ?_
    rintro e w3 ⟨r1, rfl, o1, hb⟩
    have hX : Below w2.heap.size w2 w3 := nextX (by go_grown) hb
    replace hB := nextW hB hX
    clear hb hX
    go_wp2_with fail
    refine (simple_is qs u _ (HU.out.keep (nextX hB (by go_grown))) (okMap_riseC HM.out.2) (by omega)).mono ?_
    rintro e w4 ⟨r2, rfl, o2, hb⟩
    have hX : Below w3.heap.size w3 w4 := nextX (by go_grown) hb
    replace o1 := o1.keep hX
    replace hB := nextW hB hX
    clear hb hX
    go_wp2_with fail
    refine (equalPts (simpleQ ps) (simpleQ qs) r1 r2 _ (o1.read.keep (by go_grown)) (o2.read.keep (by go_grown))).mono ?_
    rintro e w5 ⟨rfl, hb⟩
    have hX : Below w4.heap.size w4 w5 := nextX (by go_grown) hb
    replace o1 := o1.keep hX
    replace o2 := o2.keep hX
    replace hB := nextW hB hX
    clear hb hX
    go_wp2_with fail
    go_ret2
    exact ⟨rfl, hB⟩
  · obtain ⟨rfl, rfl⟩ : false = a ∧ false = t := by unfold sameQ at hl; rw [if_neg hm] at hl; exact Prod.mk.inj hl
    rcases h1 : okMap ps with _ | _
    · have HM := Lib.hid h1
      clear hv hu hl hm h1
      go_enter Tryz.func23, Tryz.ntmps23
      go_wp2_with fail
      refine (isMap_is ps v false _ (HV.out.keep (by go_grown)) hn HM.out).mono ?_
      rintro e w1 ⟨rfl, hb⟩
      have hX : Below w.heap.size w w1 := nextX (by go_grown) hb
      have hB : Below w.heap.size w w1 := hX
      clear hb hX
      go_wp2_with fail
      go_ret2
      exact ⟨rfl, hB⟩
    · have HM := Lib.hid h1
      have HK := Lib.hid (show okMap qs = false by rw [h1] at hm; simpa using hm)
      clear hv hu hl hm h1
      go_enter Tryz.func23, Tryz.ntmps23
      go_wp2_with fail
      refine (isMap_is ps v true _ (HV.out.keep (by go_grown)) hn HM.out).mono ?_
      rintro e w1 ⟨rfl, hb⟩
      have hX : Below w.heap.size w w1 := nextX (by go_grown) hb
      have hB : Below w.heap.size w w1 := hX
      clear hb hX
      go_wp2_with fail
      refine (isMap_is qs u false _ (HU.out.keep (nextX hB (by go_grown))) hk HK.out).mono ?_
      rintro e w2 ⟨rfl, hb⟩
      have hX : Below w1.heap.size w1 w2 := nextX (by go_grown) hb
      replace hB := nextW hB hX
      clear hb hX
      go_wp2_with fail
      go_ret2
      exact ⟨rfl, hB⟩

set_option maxHeartbeats 800000 in
theorem sAreSameMap_is (ps qs : List Pt) (v u : Value) (a t : Bool) (hl : sameQ ps qs = (a, t)) (w : World) (hv : RdP w v ps) (hu : RdP w u qs) (hn : ps.length ≤ 1048576) (hk : qs.length ≤ 1048576) :
    Calls Tryz.prog 24 #[v, u] w fun e w' => e = .returned (.tuple #[.bool a, .bool t]) ∧ Below w.heap.size w w' := by
  have HV := Lib.hid hv
  have HU := Lib.hid hu
  by_cases hm : okMap ps = true ∧ okMap qs = true
  · obtain ⟨rfl, rfl⟩ : decide (simpleQ ps = simpleQ qs) = a ∧ true = t := by unfold sameQ at hl; rw [if_pos hm] at hl; exact Prod.mk.inj hl
    have HM := Lib.hid hm
    have l1 := okMap_len hm.1
    have l2 := okMap_len hm.2
    clear hv hu hl hm
    go_enter Tryz.func24, Tryz.ntmps24
    go_wp2_with fail
    refine (coTwo_is ps qs v u true (by rw [HM.out.1, HM.out.2]; rfl) _ (HV.out.keep (by go_grown)) (HU.out.keep (by go_grown)) hn hk).mono ?_
    rintro e w1 ⟨rfl, hb⟩
    have hX : Below w.heap.size w w1 := nextX (by go_grown) hb
    have hB : Below w.heap.size w w1 := hX
    clear hb hX
    go_wp2_with fail
    refine (imSimple_is ps v _ (HV.out.keep (nextX hB (by go_grown))) (okMap_riseC HM.out.1) (by omega)).mono ?_
    rintro e w2 ⟨r1, rfl, o1, hb⟩
    have hX : Below w1.heap.size w1 w2 := nextX (by go_grown) hb
    replace hB := nextW hB hX
    clear hb hX
    go_wp2_with fail
    refine (imSimple_is qs u _ (HU.out.keep (nextX hB (by go_grown))) (okMap_riseC HM.out.2) (by omega)).mono ?_
    rintro e w3 ⟨r2, rfl, o2, hb⟩
    have hX : Below w2.heap.size w2 w3 := nextX (by go_grown) hb
    replace o1 := o1.keep hX
    replace hB := nextW hB hX
    clear hb hX
    go_wp2_with fail
    refine (coEqual_is (simpleQ ps) (simpleQ qs) r1 r2 _ (o1.read.keep (by go_grown)) (o2.read.keep (by go_grown))).mono ?_
    rintro e w4 ⟨rfl, hb⟩
    have hX : Below w3.heap.size w3 w4 := nextX (by go_grown) hb
    replace o1 := o1.keep hX
    replace o2 := o2.keep hX
    replace hB := nextW hB hX
    clear hb hX
    go_wp2_with fail
    go_ret2
    exact ⟨rfl, hB⟩
  · obtain ⟨rfl, rfl⟩ : false = a ∧ false = t := by unfold sameQ at hl; rw [if_neg hm] at hl; exact Prod.mk.inj hl
    have HM := Lib.hid (show (okMap ps && okMap qs) = false by rw [← Bool.not_eq_true, Bool.and_eq_true]; exact hm)
    clear hv hu hl hm
    go_enter Tryz.func24, Tryz.ntmps24
    go_wp2_with fail
    refine (coTwo_is ps qs v u false HM.out _ (HV.out.keep (by go_grown)) (HU.out.keep (by go_grown)) hn hk).mono ?_
    rintro e w1 ⟨rfl, hb⟩
    have hX : Below w.heap.size w w1 := nextX (by go_grown) hb
    have hB : Below w.heap.size w w1 := hX
    clear hb hX
    go_wp2_with fail
    go_ret2
    exact ⟨rfl, hB⟩

end Go.Proofs.YtkeajfgcjmhmiaaGreat

namespace Go.Proofs.YtkeajfgcjmhmiaaGreat
open Go.RowKit

def madeB (p : Pt) : Bool := decide (100 < p.1.2) || decide (100 < p.2.2)
def UnitP (l : List Pt) : Prop := ∀ p ∈ l, unitQ p.1.1 p.1.2 = true ∧ unitQ p.2.1 p.2.2 = true
theorem madeB_bad {p : Pt} (h : unitQ p.1.1 p.1.2 = true ∧ unitQ p.2.1 p.2.2 = true) : madeB p = badPt p := by
  have this : ∀ d : Int, decide (100 < d) = !decide (d ≤ 100) := fun d => by by_cases h : d ≤ 100 <;> simp [h] <;> omega
  unfold madeB badPt coordQ
  rw [h.1, h.2, this, this, Bool.true_and, Bool.true_and]
theorem any_made {l : List Pt} (h : UnitP l) : l.any madeB = l.any badPt := by
  induction l with
  | nil => rfl
  | cons p l ih => rw [List.any_cons, List.any_cons, madeB_bad (h p List.mem_cons_self), ih (fun q hq => h q (List.mem_cons_of_mem _ hq))]

/-- The points made simple, if that is a map. -/
def made0 (l : List Pt) : List Pt × Bool := if l.any badPt = false then (simpleQ l, okMap (simpleQ l)) else ([], false)
def madeQ (l : List Pt) : List Pt × Bool := if l.any badPt = false ∧ okMap (simpleQ l) = true then (simpleQ l, true) else ([], false)

def UpP (l : List Pt) : Prop := l.Pairwise (fun p q => toR p.1 < toR q.1)
theorem okMap_up {ps : List Pt} (hm : okMap ps = true) : UpP ps := by
  have hd : ∀ {i : Nat} {p : Pt}, ps[i]? = some p → 1 ≤ p.1.2 := fun hp => by have := coordQ_bd (okMap_coord hm hp).1; omega
  have key : ∀ (d i : Nat) (p q : Pt), ps[i]? = some p → ps[i + 1 + d]? = some q → toR p.1 < toR q.1 := by
    intro d
    induction d with
    | zero => intro i p q hp hq; exact (lessQ_iff (hd hp) (hd hq)).1 (okMap_rising hm hp hq)
    | succ d ih =>
      intro i p q hp hq
      have hlt : i + 1 + d < ps.length := by have := (List.getElem?_eq_some_iff.1 hq).1; omega
      have hm1 := List.getElem?_eq_getElem hlt
      have h1 := ih i p _ hp hm1
      have h2 := (lessQ_iff (hd hm1) (hd hq)).1 (okMap_rising hm hm1 (by rw [show i + 1 + d + 1 = i + 1 + (d + 1) by omega]; exact hq))
      generalize toR p.1 = a at *
      exact Std.lt_trans h1 h2
  unfold UpP
  rw [List.pairwise_iff_getElem]
  intro i j hi hj hij
  refine key (j - i - 1) i _ _ (List.getElem?_eq_getElem hi) ?_
  rw [show i + 1 + (j - i - 1) = j by omega]
  exact List.getElem?_eq_getElem hj
theorem okMap_unit {ps : List Pt} (hm : okMap ps = true) : UnitP ps := fun p hp => by
  obtain ⟨i, hi, rfl⟩ := List.getElem_of_mem hp
  have := okMap_coord hm (List.getElem?_eq_getElem hi)
  exact ⟨coordQ_unit this.1, coordQ_unit this.2⟩
theorem riseC_of {l : List Pt} (hu : UnitP l) (h : UpP l) (hb : l.any badPt = false) : RiseC l := by
  have hd : ∀ {i : Nat} {p : Pt}, l[i]? = some p → 1 ≤ p.1.2 := fun hp => by have := unitQ_bd (hu _ (List.mem_of_getElem? hp)).1; omega
  refine ⟨fun i p hp => ?_, fun i p q hp hq => ?_⟩
  · have := List.any_eq_false.1 hb p (List.mem_of_getElem? hp)
    unfold badPt at this
    simpa using this
  · rw [lessQ_iff (hd hp) (hd hq)]
    unfold UpP at h
    rw [List.pairwise_iff_getElem] at h
    obtain ⟨h1, rfl⟩ := List.getElem?_eq_some_iff.1 hp
    obtain ⟨h2, rfl⟩ := List.getElem?_eq_some_iff.1 hq
    exact h i (i + 1) h1 h2 (by omega)

def leftL (ps : List Pt) (x : Q) : List Pt := ps.filter (fun p => lessQ p.1.1 p.1.2 x.1 x.2)
def rightL (ps : List Pt) (x : Q) : List Pt := ps.filter (fun p => lessQ x.1 x.2 p.1.1 p.1.2)
def joinL (ps qs : List Pt) (x y : Q) : List Pt := leftL ps x ++ [(x, y)] ++ rightL qs x
theorem leftL_len (ps : List Pt) (x : Q) : (leftL ps x).length ≤ ps.length := List.length_filter_le _ _
theorem rightL_len (ps : List Pt) (x : Q) : (rightL ps x).length ≤ ps.length := List.length_filter_le _ _
theorem leftL_more {ps : List Pt} {k : Nat} {p : Pt} {x : Q} (hp : ps[k]? = some p) : leftL (ps.take (k + 1)) x = leftL (ps.take k) x ++ (if lessQ p.1.1 p.1.2 x.1 x.2 = true then [p] else []) := by
  unfold leftL
  rw [take_snoc_get hp, List.filter_append]
  congr 1
  by_cases h : lessQ p.1.1 p.1.2 x.1 x.2 = true <;> simp [h]
theorem rightL_more {ps : List Pt} {k : Nat} {p : Pt} {x : Q} (hp : ps[k]? = some p) : rightL (ps.take (k + 1)) x = rightL (ps.take k) x ++ (if lessQ x.1 x.2 p.1.1 p.1.2 = true then [p] else []) := by
  unfold rightL
  rw [take_snoc_get hp, List.filter_append]
  congr 1
  by_cases h : lessQ x.1 x.2 p.1.1 p.1.2 = true <;> simp [h]

structure Joined (l : List Pt) : Prop where
  unit : UnitP l
  up : UpP l
  len : 2 ≤ l.length ∧ l.length ≤ 100000

theorem joined {ps qs : List Pt} {x y : Q} (hm : okMap ps = true) (hk : okMap qs = true) (hx : unitQ x.1 x.2 = true) (hy : unitQ y.1 y.2 = true) : Joined (joinL ps qs x y) := by
  have xd : 1 ≤ x.2 := (unitQ_bd hx).2.2.1
  have up := okMap_unit hm
  have uq := okMap_unit hk
  have ml : ∀ p ∈ leftL ps x, p ∈ ps ∧ toR p.1 < toR x := fun p hp => by
    obtain ⟨h1, h2⟩ := List.mem_filter.1 hp
    exact ⟨h1, (lessQ_iff (unitQ_bd (up p h1).1).2.2.1 xd).1 h2⟩
  have mr : ∀ p ∈ rightL qs x, p ∈ qs ∧ toR x < toR p.1 := fun p hp => by
    obtain ⟨h1, h2⟩ := List.mem_filter.1 hp
    exact ⟨h1, (lessQ_iff xd (unitQ_bd (uq p h1).1).2.2.1).1 h2⟩
  refine ⟨fun p hp => ?_, ?_, ?_⟩
  · unfold joinL at hp
    rw [List.mem_append, List.mem_append, List.mem_singleton] at hp
    rcases hp with (hp | rfl) | hp
    · exact up p (ml p hp).1
    · exact ⟨hx, hy⟩
    · exact uq p (mr p hp).1
  · unfold UpP joinL
    rw [List.pairwise_append, List.pairwise_append]
    refine ⟨⟨(okMap_up hm).filter _, List.pairwise_singleton _ _, fun a ha b hb => ?_⟩, (okMap_up hk).filter _, fun a ha b hb => ?_⟩
    · rw [List.mem_singleton] at hb; subst hb; exact (ml a ha).2
    · rw [List.mem_append, List.mem_singleton] at ha
      rcases ha with ha | rfl
      · exact Std.lt_trans (ml a ha).2 (mr b hb).2
      · exact (mr b hb).2
  · have l1 := okMap_len hm
    have l2 := okMap_len hk
    have l3 := leftL_len ps x
    have l4 := rightL_len qs x
    have hone : 1 ≤ (leftL ps x).length ∨ 1 ≤ (rightL qs x).length := by
      obtain ⟨-, x1, x2⟩ := unitQ_iff.1 hx
      by_cases h0 : (0 : Rat) < toR x
      · left
        have hf := okMap_first hm
        cases hh : ps.head? with
        | none => rw [hh] at hf; simp at hf
        | some p =>
          rw [hh] at hf
          simp at hf
          refine List.length_pos_of_mem (a := p) (List.mem_filter.2 ⟨List.mem_of_head? hh, ?_⟩)
          rw [lessQ_iff (by rw [hf]; decide) xd, hf]
          show toR (0, 1) < _
          rw [toR_zero]
          exact h0
      · right
        have hf := okMap_last hk
        cases hh : qs.getLast? with
        | none => rw [hh] at hf; simp at hf
        | some p =>
          rw [hh] at hf
          simp at hf
          refine List.length_pos_of_mem (a := p) (List.mem_filter.2 ⟨List.mem_of_getLast? hh, ?_⟩)
          rw [lessQ_iff xd (by rw [hf]; decide), hf]
          show _ < toR (1, 1)
          rw [toR_one]
          grind
    unfold joinL
    simp only [List.length_append, List.length_singleton]
    omega

def joinQ (ps qs : List Pt) (x : Q) : List Pt × Bool :=
  if okMap ps = true ∧ okMap qs = true ∧ unitQ x.1 x.2 = true then
    (if (valQ ps x).2 = true ∧ (valQ qs x).2 = true ∧ (valQ ps x).1 = (valQ qs x).1 then madeQ (joinL ps qs x (valQ ps x).1) else ([], false))
  else ([], false)
theorem madeQ_len {l m : List Pt} {t : Bool} (h : madeQ l = (m, t)) : m.length ≤ 1048576 := by
  unfold madeQ at h
  split at h
  · rename_i hh
    obtain ⟨rfl, -⟩ := Prod.mk.inj h
    have := okMap_len hh.2
    omega
  · obtain ⟨rfl, -⟩ := Prod.mk.inj h; simp
theorem joinQ_len {ps qs m : List Pt} {x : Q} {t : Bool} (h : joinQ ps qs x = (m, t)) : m.length ≤ 1048576 := by
  unfold joinQ at h
  split at h
  · split at h
    · exact madeQ_len h
    · obtain ⟨rfl, -⟩ := Prod.mk.inj h; simp
  · obtain ⟨rfl, -⟩ := Prod.mk.inj h; simp

end Go.Proofs.YtkeajfgcjmhmiaaGreat
