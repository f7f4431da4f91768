/- Rows of fractions: what slices.Compact leaves. Plain laws, and how a row's cells turn. -/
import Derived.Test.YtkeajfgcjmhmiaaGreatRis
import Derived.Test.YtkeajfgcjmhmiaaGreatMarks
import Derived.Lib.SlicesCompact
import Derived.Laws.OwnMore
import Derived.Lib.SliceRun
namespace Go.Proofs.YtkeajfgcjmhmiaaGreat
open Go.RowKit Go.Lib

theorem compQ_snoc : ∀ (l : List Q) (x y : Q), compQ (l ++ [x, y]) = if x = y then compQ (l ++ [x]) else compQ (l ++ [x]) ++ [y]
  | [], x, y => by
    by_cases h : x = y
    · subst h; simp [compQ]
    · simp [compQ, h]
  | z :: l, x, y => by
    have ih := compQ_snoc l x y
    have hn : compQ (l ++ [x]) ≠ [] := fun e => by
      have : x ∈ compQ (l ++ [x]) := (compQ_mem _ x).2 (by simp)
      rw [e] at this; simp at this
    obtain ⟨u, r, hu⟩ := List.exists_cons_of_ne_nil hn
    by_cases h : x = y
    · rw [if_pos h] at ih ⊢
      simp only [List.cons_append, compQ, ih]
    · rw [if_neg h] at ih ⊢
      rw [hu] at ih
      simp only [List.cons_append, compQ, ih, hu]
      split <;> simp

theorem compUp (qs : List Q) : ∀ m, m ≤ qs.length → compactUpTo qs.toArray m = compQ (qs.take m)
  | 0, _ => by simp [compactUpTo, compQ]
  | 1, h => by
    have h0 := List.getElem?_eq_getElem h
    have e0 : qs.toArray[0]! = qs[0] := by simp [getElem!_pos, show 0 < qs.length by omega]
    rw [compactUpTo_succ, take_snoc_get h0, e0]
    simp [compactUpTo, keeps, compQ]
  | m + 2, h => by
    have ih := compUp qs (m + 1) (by omega)
    have h0 := List.getElem?_eq_getElem (show m < qs.length by omega)
    have h1 := List.getElem?_eq_getElem (show m + 1 < qs.length by omega)
    have e0 : qs.toArray[m]! = qs[m] := by simp [getElem!_pos, show m < qs.length by omega]
    have e1 : qs.toArray[m + 1]! = qs[m + 1] := by simp [getElem!_pos, show m + 1 < qs.length by omega]
    rw [compactUpTo_succ, ih, take_snoc_get h1, take_snoc_get h0, List.append_assoc, List.cons_append, List.nil_append, compQ_snoc]
    by_cases hx : qs[m] = qs[m + 1]
    · rw [if_pos hx, keeps_neg (by omega) (by rw [e1, Nat.add_sub_cancel, e0, hx])]
      simp
    · rw [if_neg hx, keeps_pos (by rw [e1, Nat.add_sub_cancel, e0]; exact fun e => hx e.symm), if_pos rfl, e1]

theorem CompInv.at {qs : List Q} {m k : Nat} {cs : Array Q} (h : CompInv qs.toArray m k cs) {j : Nat} (hj : k ≤ j) (hn : j < qs.length) : cs.toList[j]? = some qs[j] := by
  have h1 := h.high j hj
  have hs : cs.size = qs.length := by simpa using h.size
  rw [getElem!_pos _ _ (by omega), getElem!_pos _ _ (by simpa using hn)] at h1
  rw [Array.getElem?_toList, Array.getElem?_eq_getElem (by omega), h1]
  simp

theorem rowQ_set : ∀ (cs : List Q) (k : Nat) (a b : Int), k < cs.length → ((rowQ cs).set (k * 2) (.int .i64 a)).set (k * 2 + 1) (.int .i64 b) = rowQ (cs.set k (a, b))
  | [], k, a, b, h => by simp at h
  | q :: cs, 0, a, b, _ => by simp [rowQ]
  | q :: cs, k + 1, a, b, h => by
    have ih := rowQ_set cs k a b (by simpa using h)
    have e : ∀ (q : Q) (l : List Q), rowQ (q :: l) = .int .i64 q.1 :: .int .i64 q.2 :: rowQ l := fun q l => by simp [rowQ]
    rw [List.set_cons_succ, e, e, ← ih, show (k + 1) * 2 = k * 2 + 1 + 1 from by omega]
    simp only [List.set_cons_succ]

theorem rowQ_take : ∀ (cs : List Q) (k : Nat), (rowQ cs).take (k * 2) = rowQ (cs.take k)
  | [], k => by simp [rowQ]
  | q :: cs, 0 => by simp [rowQ]
  | q :: cs, k + 1 => by
    have ih := rowQ_take cs k
    have e : ∀ (q : Q) (l : List Q), rowQ (q :: l) = .int .i64 q.1 :: .int .i64 q.2 :: rowQ l := fun q l => by simp [rowQ]
    rw [List.take_succ_cons, e, e, ← ih, show (k + 1) * 2 = k * 2 + 1 + 1 from by omega]
    simp only [List.take_succ_cons]

theorem OwQ.set2 {base g cap n k : Nat} {e : TypeId} {w : World} {cs : List Q} (h : OwQ base e w (.slice (some ⟨g, 0, none⟩) n cap) cs) (hn : cs.length = n) (hk : k < cs.length) (a b : Int) :
    OwQ base e ((w.setCell ⟨g, k * 2, none⟩ (.int .i64 a)).setCell ⟨g, k * 2 + 1, none⟩ (.int .i64 b)) (.slice (some ⟨g, 0, none⟩) n cap) (cs.set k (a, b)) := by
  subst hn
  have s0 := World.ownsRow.stored h (k * 2) (.int .i64 a)
  have s1 := World.ownsRow.stored s0.1 (k * 2 + 1) (.int .i64 b)
  have hf := s1.1
  rw [rowQ_set _ _ _ _ hk] at hf
  unfold OwQ
  rwa [List.length_set]

theorem ownsRow_setCells {base g cap n size : Nat} {e : TypeId} : ∀ (zs : List Value) (w : World) (xs : List Value) (j : Nat), w.ownsRow base e size (.slice (some ⟨g, 0, none⟩) n cap) n xs →
    ∃ ys, (w.setCells g j zs).ownsRow base e size (.slice (some ⟨g, 0, none⟩) n cap) n ys ∧ ys.take j = xs.take j ∧ But g w (w.setCells g j zs)
  | [], w, xs, j, h => ⟨xs, h, rfl, But.refl _ _⟩
  | z :: zs, w, xs, j, h => by
    have s0 := World.ownsRow.stored h j z
    obtain ⟨ys, h1, h2, h3⟩ := ownsRow_setCells zs _ _ (j + 1) s0.1
    refine ⟨ys, h1, ?_, (But.of_grown s0.2 (.inr rfl)).trans h3⟩
    have := congrArg (List.take j) h2
    rw [List.take_take, List.take_take, Nat.min_eq_left (by omega), List.take_set_of_le (Nat.le_refl _)] at this
    exact this

theorem OwQ.cut {base g cap n k : Nat} {e : TypeId} {w : World} {xs : List Value} {cs : List Q} (h : w.ownsRow base e 2 (.slice (some ⟨g, 0, none⟩) n cap) n xs) (hk : k ≤ n) (hx : xs.take (k * 2) = rowQ cs) (hc : cs.length = k) :
    OwQ base e w (.slice (some ⟨g, 0, none⟩) k cap) cs := by
  rcases h.2 with ⟨h', -⟩ | ⟨g', cap', cur, h', hb, hg, hnc, hcm, hcs, ht⟩
  · simp at h'
  · simp only [Value.slice.injEq, Option.some.injEq, Addr.mk.injEq, and_true, true_and] at h'
    obtain ⟨rfl, rfl⟩ := h'
    refine ⟨rowQ_len _, .inr ⟨g, cap, cur, by rw [hc], hb, hg, by omega, hcm, hcs, ?_⟩⟩
    rw [hc, ← hx, ← ht, List.take_take, Nat.min_eq_left (by omega)]

theorem zero_cells (z : Value) (n : Nat) : (Builtin.zeroCells #[z, z] n).toList.length = n * 2 ∧ ∀ v ∈ (Builtin.zeroCells #[z, z] n).toList, v = z := by
  unfold Builtin.zeroCells
  refine ⟨by simp, fun v hv => ?_⟩
  simp at hv
  obtain ⟨i, hi, rfl⟩ := hv
  rcases Nat.mod_two_eq_zero_or_one i with h | h <;> simp [h]

/-- 'clear(s)' on a slice of elements of two cells. -/
theorem run_clear2 {P : Program} (w : World) (t e ty : TypeId) (z : Value) (ht : P.underlying t = some (.slice e)) (hv : ∀ w, (zeroValue e).run P w = .ok (.agg #[z, z]) w) (hz : (Value.agg #[z, z]).cells = #[z, z]) (h1 : z.oneCell' = true) (b o n c : Nat) (hn : 0 < n)
    (hc : ∀ j, j < n * 2 → (w.cell? ⟨b, o + j, none⟩).isSome = true) (hf : ∀ j, j < n * 2 → w.frozen? ⟨b, o + j, none⟩ = false) :
    (Builtin.clear_ #[t] ty #[.slice (some ⟨b, o, none⟩) n c]).run P w = .ok (.tuple #[]) (w.setCells b o (Builtin.zeroCells #[z, z] n).toList) := by
  obtain ⟨hl, hm⟩ := zero_cells z n
  have hst := run_storeCells_cells (P := P) b o (Builtin.zeroCells #[z, z] n).toList 0 w (by rw [hl]; simpa using hc) (by rw [hl]; simpa using hf) (by intro v hv'; rw [hm v hv']; exact h1)
  simp only [Nat.add_zero] at hst
  obtain ⟨m, rfl⟩ : ∃ m, n = m + 1 := ⟨n - 1, by omega⟩
  simp [Builtin.clear_, run_underlying ht, hv, hz, hst]

end Go.Proofs.YtkeajfgcjmhmiaaGreat
