/- slices.SortFunc(list, compare) over fractions. -/
import Derived.Test.YtkaekjhcphgldaaGreatRis
import Derived.Test.YtkaekjhcphgldaaGreatSortQ
import Derived.Test.YtkaekjhcphgldaaGreatSortL
namespace Go.Proofs.YtkaekjhcphgldaaGreat
open Go.RowKit Go.Sort Go.Proofs

theorem compare_grow (n1 d1 n2 d2 : Int) (s1 : Sm n1) (s2 : Sm d1) (k1 : Sm n2) (k2 : Sm d2) (w : World) :
    Calls Tryz.prog 88 #[.agg #[.int .i64 n1, .int .i64 d1], .agg #[.int .i64 n2, .int .i64 d2]] w fun e w' => e = .returned (.int .i64 (cmpQ n1 d1 n2 d2)) ∧ ∃ q os', w' = grow (w.drewN q) os' := by
  have m1 := s1.mul k2
  have m2 := k1.mul s2
  clear s1 s2 k1 k2
  by_cases h1 : n1 * d2 < n2 * d1
  · have HC := Lib.hid (show cmpQ n1 d1 n2 d2 = -1 by unfold cmpQ; rw [if_pos h1])
    go_enter Tryz.func88, Tryz.ntmps88
    go_wp2_with fail
    go_quiet (fail)
    go_wp2_with fail
    go_ret
    exact ⟨ret_int HC.out.symm, _, _, by rw [alloc_eq_grow, alloc_eq_grow, grow_grow]; rfl⟩
  · by_cases h2 : n2 * d1 < n1 * d2
    · have HC := Lib.hid (show cmpQ n1 d1 n2 d2 = 1 by unfold cmpQ; rw [if_neg h1, if_pos h2])
      go_enter Tryz.func88, Tryz.ntmps88
      go_wp2_with fail
      go_quiet (fail)
      go_wp2_with fail
      go_ret
      exact ⟨ret_int HC.out.symm, _, _, by rw [alloc_eq_grow, alloc_eq_grow, grow_grow]; rfl⟩
    · have HC := Lib.hid (show cmpQ n1 d1 n2 d2 = 0 by unfold cmpQ; rw [if_neg h1, if_neg h2])
      go_enter Tryz.func88, Tryz.ntmps88
      go_wp2_with fail
      go_quiet (fail)
      go_wp2_with fail
      go_ret
      exact ⟨ret_int HC.out.symm, _, _, by rw [alloc_eq_grow, alloc_eq_grow, grow_grow]; rfl⟩

theorem cmpLaysQ (blk off size : Nat) (w : World) : CmpLays Tryz.prog 88 #[] encQ 2 cmpO blk off size w :=
  fun _ _ _ _ x y => compare_grow x.1.1 x.1.2 y.1.1 y.1.2 (Sm.of_ok x.2).1 (Sm.of_ok x.2).2 (Sm.of_ok y.2).1 (Sm.of_ok y.2).2 _

theorem but_sorted {w : World} {g n : Nat} {d : Array OQ} {os : Array Obj} : But g w (sortWorldK encQ 2 w g 0 n d os) := by
  refine ⟨rfl, rfl, rfl, by simp [sortWorldK, putRowK], fun k hk hne => ?_⟩
  unfold sortWorldK putRowK
  rw [heap_grow_old _ _ (by simp; omega)]
  simp [putRow, mapBlock, Sort.ahead, Array.getElem?_modify, Ne.symm hne]

/-- What the sort leaves. -/
def SortEnd (base : Nat) (e : TypeId) (v : Value) (qs : List Q) (w w' : World) : Prop :=
  ∃ rs, OwQ base e w' v rs ∧ rs.length = qs.length ∧ (∀ x, x ∈ rs ↔ x ∈ qs) ∧ rs.Pairwise (fun p q => toR p ≤ toR q) ∧ OkL rs ∧ ∀ g, (∀ b, v.ownBlock = some b → b = g) → But g w w'

/-- A row of fractions, sorted in place. -/
theorem sort_is (base : Nat) (v : Value) (qs : List Q) (w : World) (h : OwQ base 36 w v qs) (ho : OkL qs) (hn : qs.length ≤ 1000000000) :
    Calls Tryz.prog 97 #[v, .func (.func 88) #[] #[]] w fun e w' => e = .returned (.tuple #[]) ∧ SortEnd base 36 v qs w w' := by
  by_cases h0 : qs.length = 0
  · obtain ⟨p, cap, rfl⟩ : ∃ p cap, v = .slice p 0 cap := by
      rcases h.2 with ⟨rfl, -⟩ | ⟨g, cap, cur, rfl, -⟩
      · exact ⟨none, 0, rfl⟩
      · exact ⟨_, cap, by rw [h0]⟩
    have hcon := AnyF.slices_SortFunc_none Tryz.sortQ p cap (.func (.func 88) #[] #[]) w
    change Calls Tryz.prog 97 _ _ _ at hcon
    refine hcon.mono ?_
    rintro e w' ⟨rfl, rfl⟩
    obtain rfl := List.eq_nil_of_length_eq_zero h0
    exact ⟨rfl, [], h, rfl, fun x => Iff.rfl, List.Pairwise.nil, ho, fun g _ => But.refl _ _⟩
  obtain ⟨l, rfl⟩ := valsO_of ho
  rw [valsO_len] at h0 hn
  rcases h.2 with ⟨-, hz⟩ | ⟨g, cap, cur, rfl, hb, hh, hle, hm, hc, ht⟩
  · rw [valsO_len] at hz; omega
  rw [valsO_len] at hle ht
  have eg : ∀ args w, (callFunc 88 args).run Tryz.prog w = .ok (.enter 88 args) w := enters_of Tryz.func88 (by kernel_rfl) rfl
  have hcon := AnyQ.slices_SortFunc Tryz.sortQ 2 Tryz.isAgg36 Tryz.sizeOf36 encQ encQ_len encQ_one cmpO swoO 88 #[] g 0 cap l.toArray w eg (cmpLaysQ g 0 _ w) (holdsQ hh ht) (Array.getElem?_eq_some_iff.1 hh).1 (by simp; omega)
  change Calls Tryz.prog 97 _ _ _ at hcon
  rw [valsO_len]
  simp only [List.size_toArray] at hcon
  refine hcon.mono ?_
  rintro e w' ⟨rfl, d', n, os, hp, hsd, rfl⟩
  obtain ⟨hp1, -, hp3⟩ := hp
  have hdl : d'.toList.length = l.length := by simpa using hp1
  have hperm : d'.toList.Perm l := by
    have := hp3
    simpa [hp1, Array.extract_eq_self_of_le] using this
  refine ⟨rfl, valsO d'.toList, ?_, by rw [valsO_len, valsO_len, hdl], fun x => ?_, ?_, fun x hx => ?_, fun k hk => ?_⟩
  · have := own_sorted (n := n) (os := os) (l := l) (l' := d'.toList) hdl hb hh hle hm hc
    simpa using this
  · unfold valsO; exact (hperm.map _).mem_iff
  · unfold valsO
    rw [List.pairwise_map, List.pairwise_iff_getElem]
    intro i j hi hj hij
    have := hsd i j (Nat.zero_le _) hij (by simpa [hdl] using hj)
    rw [ltOf_O] at this
    simp only [Array.length_toList] at hi hj
    rw [getElem!_pos d' i hi, getElem!_pos d' j hj] at this
    simp only [Array.getElem_toList]
    exact Rat.not_lt.1 (by simpa using this)
  · obtain ⟨y, -, rfl⟩ := List.mem_map.1 hx
    exact y.2
  · obtain rfl := hk g rfl
    exact but_sorted

end Go.Proofs.YtkaekjhcphgldaaGreat
