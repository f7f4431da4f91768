/- A row of fractions that the library sorts: plain laws, no program. · The shelf's laying of slices.SortFunc at this dump, in plain words. · slices.SortFunc(list, compare) over fractions. · Rows of fractions: what slices.Compact leaves. Plain laws, and how a row's cells turn. -/
import Derived.Test.YtkeajfgcjmhmiaaGreatJ9
import Derived.Test.YtkeajfgcjmhmiaaGreatJ10
import Derived.Shelf.SlSortCmp.WholeK
import Derived.Ground.SlsfProg
import Derived.Shelf.SlSortCmp.NoneTotal
import Derived.Test.YtkeajfgcjmhmiaaGreatProg
import Derived.Laws.OwnMore
import Derived.Lib.SliceRun
import Derived.Lib.SlicesCompact
namespace Go.Proofs.YtkeajfgcjmhmiaaGreat
open Go.RowKit Go.Sort Go.Proofs

abbrev OQ := { q : Q // okQ q.1 q.2 = true }
instance : Inhabited OQ := ⟨⟨(0, 1), okQ_zero⟩⟩
def encQ (x : OQ) : List Value := [.int .i64 x.1.1, .int .i64 x.1.2]
def cmpO (x y : OQ) : Int := cmpQ x.1.1 x.1.2 y.1.1 y.1.2
def valsO (l : List OQ) : List Q := l.map (·.1)
theorem valsO_of : ∀ {qs : List Q}, (∀ q ∈ qs, okQ q.1 q.2 = true) → ∃ l : List OQ, valsO l = qs
  | [], _ => ⟨[], rfl⟩
  | q :: qs, h => by
    obtain ⟨l, hl⟩ := valsO_of (fun p hp => h p (List.mem_cons_of_mem _ hp))
    exact ⟨⟨q, h q List.mem_cons_self⟩ :: l, by show q :: valsO l = q :: qs; rw [hl]⟩
theorem valsO_len (l : List OQ) : (valsO l).length = l.length := by unfold valsO; simp
theorem encQ_len (x : OQ) : (encQ x).length = 2 := rfl
theorem encQ_one (x : OQ) : ∀ v ∈ encQ x, v.oneCell' = true := fun v hv => by
  simp [encQ] at hv
  rcases hv with rfl | rfl <;> rfl
theorem ltOf_O (x y : OQ) : ltOf cmpO x y = decide (toR x.1 < toR y.1) := by
  unfold ltOf cmpO
  exact decide_eq_decide.2 (cmpQ_lt (okQ_bd x.2).1 (okQ_bd y.2).1)
theorem swoO : SWO (ltOf cmpO) where
  irrefl x := by rw [ltOf_O]; simp
  trans x y z h1 h2 := by rw [ltOf_O] at *; simp at *; exact Std.lt_trans h1 h2
  ntrans x y z h1 h2 := by rw [ltOf_O] at *; simp at *; grind
theorem flat_rowQ (l : List OQ) (t : Nat) (h : t < l.length * 2) : (rowQ (valsO l))[t]? = some (flatK encQ 2 l.toArray)[t]! := by
  rw [get_flatK _ _ _ _ (by simpa using h)]
  have hi : t / 2 < l.length := by omega
  have hx : l.toArray[t / 2]! = l[t / 2] := by simp [getElem!_pos, hi]
  have hv : (valsO l)[t / 2]? = some l[t / 2].1 := by unfold valsO; simp [hi]
  obtain ⟨h0, h1⟩ := rowQ_get _ _ _ hv
  rw [hx]
  rcases Nat.mod_two_eq_zero_or_one t with h | h
  · rw [h]; rw [show t / 2 * 2 = t by omega] at h0; rw [h0]; rfl
  · rw [h]; rw [show t / 2 * 2 + 1 = t by omega] at h1; rw [h1]; rfl
theorem flat_list (l : List OQ) : (flatK encQ 2 l.toArray).toList = rowQ (valsO l) := by
  apply List.ext_getElem?
  intro t
  by_cases h : t < l.length * 2
  · rw [flat_rowQ l t h, Array.getElem?_toList, getElem?_pos _ _ (by simpa using h), getElem!_pos _ _ (by simpa using h)]
  · rw [List.getElem?_eq_none (by simp; omega), List.getElem?_eq_none (by rw [rowQ_len, valsO_len]; omega)]

theorem holdsQ {w : World} {g : Nat} {cur : Array Value} {e : TypeId} {l : List OQ} (hb : w.heap[g]? = some (.cells cur e (0, 0))) (ht : cur.toList.take (l.length * 2) = rowQ (valsO l)) : HoldsK encQ 2 w g 0 l.toArray := by
  intro j hj
  have hj' : j < l.length * 2 := by simpa using hj
  refine ⟨?_, by simp [World.frozen?, hb]⟩
  have h1 : (cur.toList.take (l.length * 2))[j]? = some (flatK encQ 2 l.toArray)[j]! := by rw [ht]; exact flat_rowQ l j hj'
  rw [List.getElem?_take_of_lt hj'] at h1
  simp only [World.cell?, hb, Nat.zero_add]
  simp only [Option.isSome_none, Bool.false_eq_true, if_false]
  rw [← Array.getElem?_toList, h1]
  rfl

theorem heap_sortedQ {w : World} {g n : Nat} {os : Array Obj} {cur : Array Value} {e : TypeId} {fr : Nat × Nat} (d : Array Value) (hb : w.heap[g]? = some (.cells cur e fr)) :
    (grow (putRow id (Sort.ahead w n) g 0 d) os).heap[g]? = some (.cells (putCells id 0 d cur) e fr) := by
  have hg : g < w.heap.size := (Array.getElem?_eq_some_iff.1 hb).1
  rw [heap_grow_old _ _ (by simpa using hg)]
  simp [putRow, mapBlock, Sort.ahead, Array.getElem?_modify, hb, onCells]

theorem take_putCellsV (cur d : Array Value) (h : d.size ≤ cur.size) : (putCells id 0 d cur).toList.take d.size = d.toList := by
  apply List.ext_getElem?
  intro j
  by_cases hj : j < d.size
  · rw [List.getElem?_take_of_lt hj, Array.getElem?_toList]
    simp [putCells, hj, show j < cur.size by omega]
  · rw [List.getElem?_take_eq_none (by omega), List.getElem?_eq_none (by simp; omega)]

/-- Behind the sort the same slice owns the sorted row. -/
theorem own_sorted {w : World} {base g cap n : Nat} {e : TypeId} {os : Array Obj} {cur : Array Value} {l l' : List OQ} (hl : l'.length = l.length) (hbase : base ≤ g) (hb : w.heap[g]? = some (.cells cur e (0, 0)))
    (h1 : l.length ≤ cap) (h2 : cap ≤ maxLen) (h3 : cur.size = cap * 2) :
    OwQ base e (sortWorldK encQ 2 w g 0 n l'.toArray os) (.slice (some ⟨g, 0, none⟩) l.length cap) (valsO l') := by
  unfold OwQ
  refine ⟨rowQ_len _, .inr ⟨g, cap, _, by rw [valsO_len, hl], hbase, heap_sortedQ _ hb, by rw [valsO_len]; omega, h2, by simp [putCells, h3], ?_⟩⟩
  have hz : (flatK encQ 2 l'.toArray).size = (valsO l').length * 2 := by rw [size_flatK, valsO_len]; simp
  rw [← hz, take_putCellsV _ _ (by rw [hz, valsO_len, h3, hl]; omega)]
  exact flat_list l'

end Go.Proofs.YtkeajfgcjmhmiaaGreat

namespace Go.Proofs
open Go.Shelf
def Tryz.sortQ_ren : Go.Shelf.Ren := ⟨fun | 6 => 180 | 15 => 190 | 14 => 189 | 28 => 200 | 29 => 201 | 20 => 192 | 21 => 193 | 22 => 194 | 23 => 195 | 24 => 196 | 25 => 197 | 26 => 198 | 27 => 199 | 46 => 202 | 47 => 203 | 48 => 204 | 49 => 205 | 50 => 206 | 57 => 207 | n => n, fun | 22 => 43 | 24 => 31 | 25 => 70 | 3 => 3 | 39 => 129 | 0 => 0 | 53 => 141 | 55 => 77 | 4 => 4 | 46 => 135 | 45 => 134 | 50 => 61 | 5 => 5 | 9 => 9 | 66 => 143 | 70 => 147 | 76 => 149 | 77 => 150 | n => n, fun | n => n⟩
theorem Tryz.sortQ : Go.Proofs.SlLaysF0.n6 Tryz.prog Tryz.sortQ_ren := {
  mixed := by kernel_rfl
  f6 := ⟨Tryz.f180.name, by decide, Tryz.func180.trans (congrArg some (by kernel_rfl))⟩
  f14 := ⟨Tryz.f189.name, by decide, Tryz.func189.trans (congrArg some (by kernel_rfl))⟩
  f15 := Tryz.func190.trans (congrArg some (by kernel_rfl))
  f20 := ⟨Tryz.f192.name, by decide, Tryz.func192.trans (congrArg some (by kernel_rfl))⟩
  f21 := ⟨Tryz.f193.name, by decide, Tryz.func193.trans (congrArg some (by kernel_rfl))⟩
  f22 := ⟨Tryz.f194.name, by decide, Tryz.func194.trans (congrArg some (by kernel_rfl))⟩
  f23 := ⟨Tryz.f195.name, by decide, Tryz.func195.trans (congrArg some (by kernel_rfl))⟩
  f24 := ⟨Tryz.f196.name, by decide, Tryz.func196.trans (congrArg some (by kernel_rfl))⟩
  f25 := ⟨Tryz.f197.name, by decide, Tryz.func197.trans (congrArg some (by kernel_rfl))⟩
  f26 := ⟨Tryz.f198.name, by decide, Tryz.func198.trans (congrArg some (by kernel_rfl))⟩
  f27 := ⟨Tryz.f199.name, by decide, Tryz.func199.trans (congrArg some (by kernel_rfl))⟩
  f28 := Tryz.func200.trans (congrArg some (by kernel_rfl))
  f29 := Tryz.func201.trans (congrArg some (by kernel_rfl))
  f46 := ⟨Tryz.f202.name, by decide, Tryz.func202.trans (congrArg some (by kernel_rfl))⟩
  f47 := Tryz.func203.trans (congrArg some (by kernel_rfl))
  f48 := Tryz.func204.trans (congrArg some (by kernel_rfl))
  f49 := ⟨Tryz.f205.name, by decide, Tryz.func205.trans (congrArg some (by kernel_rfl))⟩
  f50 := ⟨Tryz.f206.name, by decide, Tryz.func206.trans (congrArg some (by kernel_rfl))⟩
  f57 := ⟨Tryz.f207.name, by decide, Tryz.func207.trans (congrArg some (by kernel_rfl))⟩
  t0 := Tryz.underlying0
  a0 := Tryz.isAgg0
  z0 := Tryz.sizeOf0
  v0 := Tryz.zeroValue0
  t3 := Tryz.underlying3
  a3 := Tryz.isAgg3
  z3 := Tryz.sizeOf3
  v3 := Tryz.zeroValue3
  t4 := Tryz.underlying4
  a4 := Tryz.isAgg4
  z4 := Tryz.sizeOf4
  v4 := Tryz.zeroValue4
  t5 := Tryz.underlying5
  a5 := Tryz.isAgg5
  z5 := Tryz.sizeOf5
  v5 := Tryz.zeroValue5
  t9 := Tryz.underlying9
  a9 := Tryz.isAgg9
  z9 := Tryz.sizeOf9
  v9 := Tryz.zeroValue9
  t22 := Tryz.underlying43
  a22 := Tryz.isAgg43
  z22 := Tryz.sizeOf43
  v22 := Tryz.zeroValue43
  t25 := Tryz.underlying70
  a25 := Tryz.isAgg70
  z25 := Tryz.sizeOf70
  v25 := Tryz.zeroValue70
  t39 := Tryz.underlying129
  a39 := Tryz.isAgg129
  z39 := Tryz.sizeOf129
  v39 := Tryz.zeroValue129
  t45 := Tryz.underlying134
  a45 := Tryz.isAgg134
  z45 := Tryz.sizeOf134
  v45 := Tryz.zeroValue134
  t46 := Tryz.underlying135
  a46 := Tryz.isAgg135
  z46 := Tryz.sizeOf135
  v46 := Tryz.zeroValue135
  t50 := Tryz.underlying61
  a50 := Tryz.isAgg61
  z50 := Tryz.sizeOf61
  v50 := Tryz.zeroValue61
  t53 := Tryz.underlying141
  a53 := Tryz.isAgg141
  z53 := Tryz.sizeOf141
  v53 := Tryz.zeroValue141
  t55 := Tryz.underlying77
  a55 := Tryz.isAgg77
  z55 := Tryz.sizeOf77
  v55 := Tryz.zeroValue77
  t66 := Tryz.underlying143
  a66 := Tryz.isAgg143
  z66 := Tryz.sizeOf143
  v66 := Tryz.zeroValue143
  t70 := Tryz.underlying147
  a70 := Tryz.isAgg147
  z70 := Tryz.sizeOf147
  v70 := Tryz.zeroValue147
  t76 := Tryz.underlying149
  a76 := Tryz.isAgg149
  z76 := Tryz.sizeOf149
  v76 := Tryz.zeroValue149
  t77 := Tryz.underlying150
  a77 := Tryz.isAgg150
  z77 := Tryz.sizeOf150
  v77 := Tryz.zeroValue150 }
end Go.Proofs

namespace Go.Proofs.YtkeajfgcjmhmiaaGreat
open Go.RowKit Go.Sort Go.Proofs

theorem compare_grow (n1 d1 n2 d2 : Int) (s1 : Sm n1) (s2 : Sm d1) (k1 : Sm n2) (k2 : Sm d2) (w : World) :
    Calls Tryz.prog 160 #[.agg #[.int .i64 n1, .int .i64 d1], .agg #[.int .i64 n2, .int .i64 d2]] w fun e w' => e = .returned (.int .i64 (cmpQ n1 d1 n2 d2)) ∧ ∃ q os', w' = grow (w.drewN q) os' := by
  have m1 := s1.mul k2
  have m2 := k1.mul s2
  clear s1 s2 k1 k2
  by_cases h1 : n1 * d2 < n2 * d1
  · have HC := Lib.hid (show cmpQ n1 d1 n2 d2 = -1 by unfold cmpQ; rw [if_pos h1])
    go_enter Tryz.func160, Tryz.ntmps160
    go_wp2_with fail
    go_quiet (fail)
    go_wp2_with fail
    go_ret
    exact ⟨ret_int HC.out.symm, _, _, by rw [alloc_eq_grow, alloc_eq_grow, grow_grow]; rfl⟩
  · by_cases h2 : n2 * d1 < n1 * d2
    · have HC := Lib.hid (show cmpQ n1 d1 n2 d2 = 1 by unfold cmpQ; rw [if_neg h1, if_pos h2])
      go_enter Tryz.func160, Tryz.ntmps160
      go_wp2_with fail
      go_quiet (fail)
      go_wp2_with fail
      go_ret
      exact ⟨ret_int HC.out.symm, _, _, by rw [alloc_eq_grow, alloc_eq_grow, grow_grow]; rfl⟩
    · have HC := Lib.hid (show cmpQ n1 d1 n2 d2 = 0 by unfold cmpQ; rw [if_neg h1, if_neg h2])
      go_enter Tryz.func160, Tryz.ntmps160
      go_wp2_with fail
      go_quiet (fail)
      go_wp2_with fail
      go_ret
      exact ⟨ret_int HC.out.symm, _, _, by rw [alloc_eq_grow, alloc_eq_grow, grow_grow]; rfl⟩

theorem cmpLaysQ (blk off size : Nat) (w : World) : CmpLays Tryz.prog 160 #[] encQ 2 cmpO blk off size w :=
  fun _ _ _ _ x y => compare_grow x.1.1 x.1.2 y.1.1 y.1.2 (Sm.of_ok x.2).1 (Sm.of_ok x.2).2 (Sm.of_ok y.2).1 (Sm.of_ok y.2).2 _

theorem but_sorted {w : World} {g n : Nat} {d : Array OQ} {os : Array Obj} : But g w (sortWorldK encQ 2 w g 0 n d os) := by
  refine ⟨rfl, rfl, rfl, by simp [sortWorldK, putRowK], fun k hk hne => ?_⟩
  unfold sortWorldK putRowK
  rw [heap_grow_old _ _ (by simp; omega)]
  simp [putRow, mapBlock, Sort.ahead, Array.getElem?_modify, Ne.symm hne]

/-- What the sort leaves. -/
def SortEnd (base : Nat) (e : TypeId) (v : Value) (qs : List Q) (w w' : World) : Prop :=
  ∃ rs, OwQ base e w' v rs ∧ rs.length = qs.length ∧ (∀ x, x ∈ rs ↔ x ∈ qs) ∧ rs.Pairwise (fun p q => toR p ≤ toR q) ∧ OkL rs ∧ ∀ g, (∀ b, v.ownBlock = some b → b = g) → But g w w'

/-- A row of fractions, sorted in place. -/
theorem sort_is (base : Nat) (v : Value) (qs : List Q) (w : World) (h : OwQ base 31 w v qs) (ho : OkL qs) (hn : qs.length ≤ 1000000000) :
    Calls Tryz.prog 180 #[v, .func (.func 160) #[] #[]] w fun e w' => e = .returned (.tuple #[]) ∧ SortEnd base 31 v qs w w' := by
  by_cases h0 : qs.length = 0
  · obtain ⟨p, cap, rfl⟩ : ∃ p cap, v = .slice p 0 cap := by
      rcases h.2 with ⟨rfl, -⟩ | ⟨g, cap, cur, rfl, -⟩
      · exact ⟨none, 0, rfl⟩
      · exact ⟨_, cap, by rw [h0]⟩
    have hcon := AnyF.slices_SortFunc_none Tryz.sortQ p cap (.func (.func 160) #[] #[]) w
    change Calls Tryz.prog 180 _ _ _ at hcon
    refine hcon.mono ?_
    rintro e w' ⟨rfl, rfl⟩
    obtain rfl := List.eq_nil_of_length_eq_zero h0
    exact ⟨rfl, [], h, rfl, fun x => Iff.rfl, List.Pairwise.nil, ho, fun g _ => But.refl _ _⟩
  obtain ⟨l, rfl⟩ := valsO_of ho
  rw [valsO_len] at h0 hn
  rcases h.2 with ⟨-, hz⟩ | ⟨g, cap, cur, rfl, hb, hh, hle, hm, hc, ht⟩
  · rw [valsO_len] at hz; omega
  rw [valsO_len] at hle ht
  have eg : ∀ args w, (callFunc 160 args).run Tryz.prog w = .ok (.enter 160 args) w := enters_of Tryz.func160 (by kernel_rfl) rfl
  have hcon := AnyQ.slices_SortFunc Tryz.sortQ 2 Tryz.isAgg31 Tryz.sizeOf31 encQ encQ_len encQ_one cmpO swoO 160 #[] g 0 cap l.toArray w eg (cmpLaysQ g 0 _ w) (holdsQ hh ht) (Array.getElem?_eq_some_iff.1 hh).1 (by simp; omega)
  change Calls Tryz.prog 180 _ _ _ at hcon
  rw [valsO_len]
  simp only [List.size_toArray] at hcon
  refine hcon.mono ?_
  rintro e w' ⟨rfl, d', n, os, hp, hsd, rfl⟩
  obtain ⟨hp1, -, hp3⟩ := hp
  have hdl : d'.toList.length = l.length := by simpa using hp1
  have hperm : d'.toList.Perm l := by
    have := hp3
    simpa [hp1, Array.extract_eq_self_of_le] using this
  refine ⟨rfl, valsO d'.toList, ?_, by rw [valsO_len, valsO_len, hdl], fun x => ?_, ?_, fun x hx => ?_, fun k hk => ?_⟩
  · have := own_sorted (n := n) (os := os) (l := l) (l' := d'.toList) hdl hb hh hle hm hc
    simpa using this
  · unfold valsO; exact (hperm.map _).mem_iff
  · unfold valsO
    rw [List.pairwise_map, List.pairwise_iff_getElem]
    intro i j hi hj hij
    have := hsd i j (Nat.zero_le _) hij (by simpa [hdl] using hj)
    rw [ltOf_O] at this
    simp only [Array.length_toList] at hi hj
    rw [getElem!_pos d' i hi, getElem!_pos d' j hj] at this
    simp only [Array.getElem_toList]
    exact Rat.not_lt.1 (by simpa using this)
  · obtain ⟨y, -, rfl⟩ := List.mem_map.1 hx
    exact y.2
  · obtain rfl := hk g rfl
    exact but_sorted

end Go.Proofs.YtkeajfgcjmhmiaaGreat

namespace Go.Proofs.YtkeajfgcjmhmiaaGreat
open Go.RowKit Go.Lib

theorem compQ_snoc : ∀ (l : List Q) (x y : Q), compQ (l ++ [x, y]) = if x = y then compQ (l ++ [x]) else compQ (l ++ [x]) ++ [y]
  | [], x, y => by
    by_cases h : x = y
    · subst h; simp [compQ]
    · simp [compQ, h]
  | z :: l, x, y => by
    have ih := compQ_snoc l x y
    have hn : compQ (l ++ [x]) ≠ [] := fun e => by
      have : x ∈ compQ (l ++ [x]) := (compQ_mem _ x).2 (by simp)
      rw [e] at this; simp at this
    obtain ⟨u, r, hu⟩ := List.exists_cons_of_ne_nil hn
    by_cases h : x = y
    · rw [if_pos h] at ih ⊢
      simp only [List.cons_append, compQ, ih]
    · rw [if_neg h] at ih ⊢
      rw [hu] at ih
      simp only [List.cons_append, compQ, ih, hu]
      split <;> simp

theorem compUp (qs : List Q) : ∀ m, m ≤ qs.length → compactUpTo qs.toArray m = compQ (qs.take m)
  | 0, _ => by simp [compactUpTo, compQ]
  | 1, h => by
    have h0 := List.getElem?_eq_getElem h
    have e0 : qs.toArray[0]! = qs[0] := by simp [getElem!_pos, show 0 < qs.length by omega]
    rw [compactUpTo_succ, take_snoc_get h0, e0]
    simp [compactUpTo, keeps, compQ]
  | m + 2, h => by
    have ih := compUp qs (m + 1) (by omega)
    have h0 := List.getElem?_eq_getElem (show m < qs.length by omega)
    have h1 := List.getElem?_eq_getElem (show m + 1 < qs.length by omega)
    have e0 : qs.toArray[m]! = qs[m] := by simp [getElem!_pos, show m < qs.length by omega]
    have e1 : qs.toArray[m + 1]! = qs[m + 1] := by simp [getElem!_pos, show m + 1 < qs.length by omega]
    rw [compactUpTo_succ, ih, take_snoc_get h1, take_snoc_get h0, List.append_assoc, List.cons_append, List.nil_append, compQ_snoc]
    by_cases hx : qs[m] = qs[m + 1]
    · rw [if_pos hx, keeps_neg (by omega) (by rw [e1, Nat.add_sub_cancel, e0, hx])]
      simp
    · rw [if_neg hx, keeps_pos (by rw [e1, Nat.add_sub_cancel, e0]; exact fun e => hx e.symm), if_pos rfl, e1]

theorem CompInv.at {qs : List Q} {m k : Nat} {cs : Array Q} (h : CompInv qs.toArray m k cs) {j : Nat} (hj : k ≤ j) (hn : j < qs.length) : cs.toList[j]? = some qs[j] := by
  have h1 := h.high j hj
  have hs : cs.size = qs.length := by simpa using h.size
  rw [getElem!_pos _ _ (by omega), getElem!_pos _ _ (by simpa using hn)] at h1
  rw [Array.getElem?_toList, Array.getElem?_eq_getElem (by omega), h1]
  simp

theorem rowQ_set : ∀ (cs : List Q) (k : Nat) (a b : Int), k < cs.length → ((rowQ cs).set (k * 2) (.int .i64 a)).set (k * 2 + 1) (.int .i64 b) = rowQ (cs.set k (a, b))
  | [], k, a, b, h => by simp at h
  | q :: cs, 0, a, b, _ => by simp [rowQ]
  | q :: cs, k + 1, a, b, h => by
    have ih := rowQ_set cs k a b (by simpa using h)
    have e : ∀ (q : Q) (l : List Q), rowQ (q :: l) = .int .i64 q.1 :: .int .i64 q.2 :: rowQ l := fun q l => by simp [rowQ]
    rw [List.set_cons_succ, e, e, ← ih, show (k + 1) * 2 = k * 2 + 1 + 1 from by omega]
    simp only [List.set_cons_succ]

theorem rowQ_take : ∀ (cs : List Q) (k : Nat), (rowQ cs).take (k * 2) = rowQ (cs.take k)
  | [], k => by simp [rowQ]
  | q :: cs, 0 => by simp [rowQ]
  | q :: cs, k + 1 => by
    have ih := rowQ_take cs k
    have e : ∀ (q : Q) (l : List Q), rowQ (q :: l) = .int .i64 q.1 :: .int .i64 q.2 :: rowQ l := fun q l => by simp [rowQ]
    rw [List.take_succ_cons, e, e, ← ih, show (k + 1) * 2 = k * 2 + 1 + 1 from by omega]
    simp only [List.take_succ_cons]

theorem OwQ.set2 {base g cap n k : Nat} {e : TypeId} {w : World} {cs : List Q} (h : OwQ base e w (.slice (some ⟨g, 0, none⟩) n cap) cs) (hn : cs.length = n) (hk : k < cs.length) (a b : Int) :
    OwQ base e ((w.setCell ⟨g, k * 2, none⟩ (.int .i64 a)).setCell ⟨g, k * 2 + 1, none⟩ (.int .i64 b)) (.slice (some ⟨g, 0, none⟩) n cap) (cs.set k (a, b)) := by
  subst hn
  have s0 := World.ownsRow.stored h (k * 2) (.int .i64 a)
  have s1 := World.ownsRow.stored s0.1 (k * 2 + 1) (.int .i64 b)
  have hf := s1.1
  rw [rowQ_set _ _ _ _ hk] at hf
  unfold OwQ
  rwa [List.length_set]

theorem ownsRow_setCells {base g cap n size : Nat} {e : TypeId} : ∀ (zs : List Value) (w : World) (xs : List Value) (j : Nat), w.ownsRow base e size (.slice (some ⟨g, 0, none⟩) n cap) n xs →
    ∃ ys, (w.setCells g j zs).ownsRow base e size (.slice (some ⟨g, 0, none⟩) n cap) n ys ∧ ys.take j = xs.take j ∧ But g w (w.setCells g j zs)
  | [], w, xs, j, h => ⟨xs, h, rfl, But.refl _ _⟩
  | z :: zs, w, xs, j, h => by
    have s0 := World.ownsRow.stored h j z
    obtain ⟨ys, h1, h2, h3⟩ := ownsRow_setCells zs _ _ (j + 1) s0.1
    refine ⟨ys, h1, ?_, (But.of_grown s0.2 (.inr rfl)).trans h3⟩
    have := congrArg (List.take j) h2
    rw [List.take_take, List.take_take, Nat.min_eq_left (by omega), List.take_set_of_le (Nat.le_refl _)] at this
    exact this

theorem OwQ.cut {base g cap n k : Nat} {e : TypeId} {w : World} {xs : List Value} {cs : List Q} (h : w.ownsRow base e 2 (.slice (some ⟨g, 0, none⟩) n cap) n xs) (hk : k ≤ n) (hx : xs.take (k * 2) = rowQ cs) (hc : cs.length = k) :
    OwQ base e w (.slice (some ⟨g, 0, none⟩) k cap) cs := by
  rcases h.2 with ⟨h', -⟩ | ⟨g', cap', cur, h', hb, hg, hnc, hcm, hcs, ht⟩
  · simp at h'
  · simp only [Value.slice.injEq, Option.some.injEq, Addr.mk.injEq, and_true, true_and] at h'
    obtain ⟨rfl, rfl⟩ := h'
    refine ⟨rowQ_len _, .inr ⟨g, cap, cur, by rw [hc], hb, hg, by omega, hcm, hcs, ?_⟩⟩
    rw [hc, ← hx, ← ht, List.take_take, Nat.min_eq_left (by omega)]

theorem zero_cells (z : Value) (n : Nat) : (Builtin.zeroCells #[z, z] n).toList.length = n * 2 ∧ ∀ v ∈ (Builtin.zeroCells #[z, z] n).toList, v = z := by
  unfold Builtin.zeroCells
  refine ⟨by simp, fun v hv => ?_⟩
  simp at hv
  obtain ⟨i, hi, rfl⟩ := hv
  rcases Nat.mod_two_eq_zero_or_one i with h | h <;> simp [h]

/-- 'clear(s)' on a slice of elements of two cells. -/
theorem run_clear2 {P : Program} (w : World) (t e ty : TypeId) (z : Value) (ht : P.underlying t = some (.slice e)) (hv : ∀ w, (zeroValue e).run P w = .ok (.agg #[z, z]) w) (hz : (Value.agg #[z, z]).cells = #[z, z]) (h1 : z.oneCell' = true) (b o n c : Nat) (hn : 0 < n)
    (hc : ∀ j, j < n * 2 → (w.cell? ⟨b, o + j, none⟩).isSome = true) (hf : ∀ j, j < n * 2 → w.frozen? ⟨b, o + j, none⟩ = false) :
    (Builtin.clear_ #[t] ty #[.slice (some ⟨b, o, none⟩) n c]).run P w = .ok (.tuple #[]) (w.setCells b o (Builtin.zeroCells #[z, z] n).toList) := by
  obtain ⟨hl, hm⟩ := zero_cells z n
  have hst := run_storeCells_cells (P := P) b o (Builtin.zeroCells #[z, z] n).toList 0 w (by rw [hl]; simpa using hc) (by rw [hl]; simpa using hf) (by intro v hv'; rw [hm v hv']; exact h1)
  simp only [Nat.add_zero] at hst
  obtain ⟨m, rfl⟩ : ∃ m, n = m + 1 := ⟨n - 1, by omega⟩
  simp [Builtin.clear_, run_underlying ht, hv, hz, hst]

end Go.Proofs.YtkeajfgcjmhmiaaGreat
