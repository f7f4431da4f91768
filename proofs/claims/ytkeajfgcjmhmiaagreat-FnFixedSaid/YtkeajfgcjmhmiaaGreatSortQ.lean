/- A row of fractions that the library sorts: plain laws, no program. -/
import Derived.Shelf.SlSortCmp.WholeK
import Derived.Test.YtkeajfgcjmhmiaaGreatSlopes
namespace Go.Proofs.YtkeajfgcjmhmiaaGreat
open Go.RowKit Go.Sort Go.Proofs

abbrev OQ := { q : Q // okQ q.1 q.2 = true }
instance : Inhabited OQ := ⟨⟨(0, 1), okQ_zero⟩⟩
def encQ (x : OQ) : List Value := [.int .i64 x.1.1, .int .i64 x.1.2]
def cmpO (x y : OQ) : Int := cmpQ x.1.1 x.1.2 y.1.1 y.1.2
def valsO (l : List OQ) : List Q := l.map (·.1)
theorem valsO_of : ∀ {qs : List Q}, (∀ q ∈ qs, okQ q.1 q.2 = true) → ∃ l : List OQ, valsO l = qs
  | [], _ => ⟨[], rfl⟩
  | q :: qs, h => by
    obtain ⟨l, hl⟩ := valsO_of (fun p hp => h p (List.mem_cons_of_mem _ hp))
    exact ⟨⟨q, h q List.mem_cons_self⟩ :: l, by show q :: valsO l = q :: qs; rw [hl]⟩
theorem valsO_len (l : List OQ) : (valsO l).length = l.length := by unfold valsO; simp
theorem encQ_len (x : OQ) : (encQ x).length = 2 := rfl
theorem encQ_one (x : OQ) : ∀ v ∈ encQ x, v.oneCell' = true := fun v hv => by
  simp [encQ] at hv
  rcases hv with rfl | rfl <;> rfl
theorem ltOf_O (x y : OQ) : ltOf cmpO x y = decide (toR x.1 < toR y.1) := by
  unfold ltOf cmpO
  exact decide_eq_decide.2 (cmpQ_lt (okQ_bd x.2).1 (okQ_bd y.2).1)
theorem swoO : SWO (ltOf cmpO) where
  irrefl x := by rw [ltOf_O]; simp
  trans x y z h1 h2 := by rw [ltOf_O] at *; simp at *; exact Std.lt_trans h1 h2
  ntrans x y z h1 h2 := by rw [ltOf_O] at *; simp at *; grind
theorem antiO (x y : OQ) (h1 : ltOf cmpO x y = false) (h2 : ltOf cmpO y x = false) : x = y := by
  rw [ltOf_O] at *
  simp at h1 h2
  exact Subtype.ext (toR_inj x.2 y.2 (by grind))

theorem flat_rowQ (l : List OQ) (t : Nat) (h : t < l.length * 2) : (rowQ (valsO l))[t]? = some (flatK encQ 2 l.toArray)[t]! := by
  rw [get_flatK _ _ _ _ (by simpa using h)]
  have hi : t / 2 < l.length := by omega
  have hx : l.toArray[t / 2]! = l[t / 2] := by simp [getElem!_pos, hi]
  have hv : (valsO l)[t / 2]? = some l[t / 2].1 := by unfold valsO; simp [hi]
  obtain ⟨h0, h1⟩ := rowQ_get _ _ _ hv
  rw [hx]
  rcases Nat.mod_two_eq_zero_or_one t with h | h
  · rw [h]; rw [show t / 2 * 2 = t by omega] at h0; rw [h0]; rfl
  · rw [h]; rw [show t / 2 * 2 + 1 = t by omega] at h1; rw [h1]; rfl
theorem flat_list (l : List OQ) : (flatK encQ 2 l.toArray).toList = rowQ (valsO l) := by
  apply List.ext_getElem?
  intro t
  by_cases h : t < l.length * 2
  · rw [flat_rowQ l t h, Array.getElem?_toList, getElem?_pos _ _ (by simpa using h), getElem!_pos _ _ (by simpa using h)]
  · rw [List.getElem?_eq_none (by simp; omega), List.getElem?_eq_none (by rw [rowQ_len, valsO_len]; omega)]

theorem holdsQ {w : World} {g : Nat} {cur : Array Value} {e : TypeId} {l : List OQ} (hb : w.heap[g]? = some (.cells cur e (0, 0))) (ht : cur.toList.take (l.length * 2) = rowQ (valsO l)) : HoldsK encQ 2 w g 0 l.toArray := by
  intro j hj
  have hj' : j < l.length * 2 := by simpa using hj
  refine ⟨?_, by simp [World.frozen?, hb]⟩
  have h1 : (cur.toList.take (l.length * 2))[j]? = some (flatK encQ 2 l.toArray)[j]! := by rw [ht]; exact flat_rowQ l j hj'
  rw [List.getElem?_take_of_lt hj'] at h1
  simp only [World.cell?, hb, Nat.zero_add]
  simp only [Option.isSome_none, Bool.false_eq_true, if_false]
  rw [← Array.getElem?_toList, h1]
  rfl

theorem heap_sortedQ {w : World} {g n : Nat} {os : Array Obj} {cur : Array Value} {e : TypeId} {fr : Nat × Nat} (d : Array Value) (hb : w.heap[g]? = some (.cells cur e fr)) :
    (grow (putRow id (Sort.ahead w n) g 0 d) os).heap[g]? = some (.cells (putCells id 0 d cur) e fr) := by
  have hg : g < w.heap.size := (Array.getElem?_eq_some_iff.1 hb).1
  rw [heap_grow_old _ _ (by simpa using hg)]
  simp [putRow, mapBlock, Sort.ahead, Array.getElem?_modify, hb, onCells]

theorem take_putCellsV (cur d : Array Value) (h : d.size ≤ cur.size) : (putCells id 0 d cur).toList.take d.size = d.toList := by
  apply List.ext_getElem?
  intro j
  by_cases hj : j < d.size
  · rw [List.getElem?_take_of_lt hj, Array.getElem?_toList]
    simp [putCells, hj, show j < cur.size by omega]
  · rw [List.getElem?_take_eq_none (by omega), List.getElem?_eq_none (by simp; omega)]

theorem below_sorted {w : World} {base g n : Nat} {d : Array OQ} {os : Array Obj} (hg : base ≤ g) (hs : g < w.heap.size) : Go.RowKit.Below base w (sortWorldK encQ 2 w g 0 n d os) := by
  refine ⟨rfl, rfl, rfl, by simp [sortWorldK, putRowK], fun k hk => ?_⟩
  unfold sortWorldK putRowK
  rw [heap_grow_old _ _ (by simp; omega)]
  have : g ≠ k := by omega
  simp [putRow, mapBlock, Sort.ahead, Array.getElem?_modify, this]

/-- Behind the sort the same slice owns the sorted row. -/
theorem own_sorted {w : World} {base g cap n : Nat} {e : TypeId} {os : Array Obj} {cur : Array Value} {l l' : List OQ} (hl : l'.length = l.length) (hbase : base ≤ g) (hb : w.heap[g]? = some (.cells cur e (0, 0)))
    (h1 : l.length ≤ cap) (h2 : cap ≤ maxLen) (h3 : cur.size = cap * 2) :
    OwQ base e (sortWorldK encQ 2 w g 0 n l'.toArray os) (.slice (some ⟨g, 0, none⟩) l.length cap) (valsO l') := by
  unfold OwQ
  refine ⟨rowQ_len _, .inr ⟨g, cap, _, by rw [valsO_len, hl], hbase, heap_sortedQ _ hb, by rw [valsO_len]; omega, h2, by simp [putCells, h3], ?_⟩⟩
  have hz : (flatK encQ 2 l'.toArray).size = (valsO l').length * 2 := by rw [size_flatK, valsO_len]; simp
  rw [← hz, take_putCellsV _ _ (by rw [hz, valsO_len, h3, hl]; omega)]
  exact flat_list l'

end Go.Proofs.YtkeajfgcjmhmiaaGreat
