/- slices.Delete at a row of named maps of the call's own. -/
import Derived.Test.YtmabngjmfjjogaaDoorCpM
import Derived.Shelf.RegionOpenPlain
import Derived.WalkKit
import Derived.Deep.LoopGhost
import Derived.Deep.RegionLaw
import Derived.Lib.Walk
import Derived.Lib.SliceRun
namespace Go.Proofs.YtmabngjmfjjogaaDoor
open Go.RowKit

def setL (xs : List Value) : Nat → List Value → List Value
  | _, [] => xs
  | k, v :: r => setL (xs.set k v) (k + 1) r
theorem setL_eq : ∀ (news xs : List Value) (k : Nat), k + news.length ≤ xs.length → setL xs k news = xs.take k ++ news ++ xs.drop (k + news.length)
  | [], xs, k, h => by simp [setL]
  | v :: r, xs, k, h => by
    simp only [List.length_cons] at h
    rw [setL, setL_eq r (xs.set k v) (k + 1) (by rw [List.length_set]; omega)]
    have e1 : (xs.set k v).take (k + 1) = xs.take k ++ [v] := by
      rw [List.take_set, List.take_add_one, List.getElem?_eq_getElem (by omega)]
      simp only [Option.toList_some]
      rw [List.set_append_right _ _ (by rw [List.length_take]; omega), List.length_take, Nat.min_eq_left (by omega), Nat.sub_self]
      rfl
    have e2 : (xs.set k v).drop (k + 1 + r.length) = xs.drop (k + 1 + r.length) := by
      rw [List.drop_set]
      rw [if_pos (by omega)]
    rw [e1, e2, List.length_cons, show k + (r.length + 1) = k + 1 + r.length from by omega]
    simp
theorem ownsRow_setCells {base e size g n cap : Nat} : ∀ (news : List Value) (k : Nat) (w : World) (xs : List Value), w.ownsRow base e size (.slice (some ⟨g, 0, none⟩) n cap) n xs →
    (w.setCells g k news).ownsRow base e size (.slice (some ⟨g, 0, none⟩) n cap) n (setL xs k news) ∧ But g w (w.setCells g k news)
  | [], k, w, xs, h => ⟨h, But.refl _ _⟩
  | v :: r, k, w, xs, h => by
    have s := World.ownsRow.stored h k v
    obtain ⟨h1, h2⟩ := ownsRow_setCells r (k + 1) _ _ s.1
    exact ⟨h1, (But.of_grown s.2 (.inr rfl)).trans h2⟩
theorem ownsRow_short {base e size g n m cap : Nat} {w : World} {xs : List Value} (h : w.ownsRow base e size (.slice (some ⟨g, 0, none⟩) n cap) n xs) (hm : m ≤ n) :
    w.ownsRow base e size (.slice (some ⟨g, 0, none⟩) m cap) m (xs.take (m * size)) := by
  have hle : m * size ≤ n * size := Nat.mul_le_mul_right _ hm
  refine ⟨by rw [List.length_take, h.1]; omega, ?_⟩
  rcases h.2 with ⟨h', _⟩ | ⟨g', cap', cur, h', hb, hg, hnc, hcm, hcs, htake⟩
  · simp at h'
  · simp only [Value.slice.injEq, Option.some.injEq, Addr.mk.injEq, and_true, true_and] at h'
    obtain ⟨rfl, rfl⟩ := h'
    refine .inr ⟨g, cap, cur, rfl, hb, hg, Nat.le_trans hm hnc, hcm, hcs, ?_⟩
    rw [← htake, List.take_take, Nat.min_eq_left hle]
theorem rowN_take : ∀ {ns : List Nm} {ms : List Value} (i : Nat), ms.length = ns.length → (rowN ns ms).take (i * 2) = rowN (ns.take i) (ms.take i)
  | ns, ms, 0, _ => by simp [rowN]
  | [], [], i + 1, _ => by simp [rowN]
  | n :: ns, m :: ms, i + 1, h => by
    have := rowN_take (ns := ns) (ms := ms) i (by simpa using h)
    rw [show (i + 1) * 2 = i * 2 + 1 + 1 from by omega]
    simp only [rowN, List.take_succ_cons, this]
theorem rowN_drop : ∀ {ns : List Nm} {ms : List Value} (i : Nat), ms.length = ns.length → (rowN ns ms).drop (i * 2) = rowN (ns.drop i) (ms.drop i)
  | ns, ms, 0, _ => by simp
  | [], [], i + 1, _ => by simp [rowN]
  | n :: ns, m :: ms, i + 1, h => by
    have := rowN_drop (ns := ns) (ms := ms) i (by simpa using h)
    rw [show (i + 1) * 2 = i * 2 + 1 + 1 from by omega]
    simp only [rowN, List.drop_succ_cons, this]
theorem rowN_erase {ns : List Nm} {ms : List Value} {i : Nat} (hl : ms.length = ns.length) (hi : i < ns.length) (a b : Value) :
    (setL (setL (rowN ns ms) (i * 2) (rowN (ns.drop (i + 1)) (ms.drop (i + 1)))) ((ns.length - 1) * 2) [a, b]).take ((ns.length - 1) * 2) = rowN (ns.eraseIdx i) (ms.eraseIdx i) := by
  have hr := rowN_len hl
  have hd : (rowN (ns.drop (i + 1)) (ms.drop (i + 1))).length = (ns.length - (i + 1)) * 2 := by
    rw [rowN_len (by rw [List.length_drop, List.length_drop, hl]), List.length_drop]
  rw [setL_eq [a, b] _ _ (by rw [setL_eq _ _ _ (by rw [hd, hr]; omega)]; simp only [List.length_append, List.length_take, List.length_drop, List.length_cons, List.length_nil, hd, hr]; omega)]
  rw [setL_eq _ _ _ (by rw [hd, hr]; omega), hd]
  have ht : ((rowN ns ms).take (i * 2) ++ rowN (ns.drop (i + 1)) (ms.drop (i + 1))).length = (ns.length - 1) * 2 := by
    rw [List.length_append, List.length_take, hr, hd]; omega
  have h1 : ∀ L M : List Value, L.length = (ns.length - 1) * 2 → (L ++ M).take ((ns.length - 1) * 2) = L := fun L M h => by rw [← h, List.take_left]
  rw [List.append_assoc (List.take _ _) [a, b], h1 _ _ (by rw [h1 _ _ ht]; exact ht), h1 _ _ ht]
  rw [rowN_take i hl, ← rowN_app (by rw [List.length_take, List.length_take, hl]), List.eraseIdx_eq_take_drop_succ, List.eraseIdx_eq_take_drop_succ]
theorem OwM.erase {base : Nat} {w : World} {ns : List Nm} {ms : List Value} (h : OwM base w ns ms) (i : Nat) : OwM base w (ns.eraseIdx i) (ms.eraseIdx i) := by
  have key : ∀ (j : Nat) (n : Nm) (m : Value), (ns.eraseIdx i)[j]? = some n → (ms.eraseIdx i)[j]? = some m → ∃ j', ns[j']? = some n ∧ ms[j']? = some m ∧ j' = if j < i then j else j + 1 := by
    intro j n m hn hm
    rw [List.getElem?_eraseIdx] at hn hm
    by_cases hj : j < i
    · rw [if_pos hj] at hn hm; exact ⟨j, hn, hm, by rw [if_pos hj]⟩
    · rw [if_neg hj] at hn hm; exact ⟨j + 1, hn, hm, by rw [if_neg hj]⟩
  refine ⟨by rw [List.length_eraseIdx, List.length_eraseIdx, h.1], fun j n m hn hm => ?_, fun j k m u hjk hm hu => ?_⟩
  · obtain ⟨j', h1, h2, -⟩ := key j n m hn hm
    exact h.2.1 j' n m h1 h2
  · rw [List.getElem?_eraseIdx] at hm hu
    by_cases h1 : j < i
    · rw [if_pos h1] at hm
      by_cases h2 : k < i
      · rw [if_pos h2] at hu; exact h.2.2 j k m u hjk hm hu
      · rw [if_neg h2] at hu; exact h.2.2 j (k + 1) m u (by omega) hm hu
    · rw [if_neg h1] at hm
      rw [if_neg (by omega)] at hu
      exact h.2.2 (j + 1) (k + 1) m u (by omega) hm hu
theorem OwM.but {base g : Nat} {w w' : World} {ns : List Nm} {ms : List Value} (h : OwM base w ns ms) (hb : But g w w') (hs : ∀ m ∈ ms, m.ownBlock ≠ some g) : OwM base w' ns ms :=
  ⟨h.1, fun i n m hn hm => (h.2.1 i n m hn hm).keepU hb (hs m (List.mem_of_getElem? hm)), h.2.2⟩

theorem run_clear_one (W : World) (ty : TypeId) (g k c : Nat) (h0 : (W.cell? ⟨g, k, none⟩).isSome = true) (h1 : (W.cell? ⟨g, k + 1, none⟩).isSome = true) (f0 : W.frozen? ⟨g, k, none⟩ = false) (f1 : W.frozen? ⟨g, k + 1, none⟩ = false) :
    (Builtin.clear_ #[46] ty #[.slice (some ⟨g, k, none⟩) 1 c]).run Tryd.prog W = .ok (.tuple #[]) (W.setCells g k [.string ByteArray.empty, .slice none 0 0]) := by
  have hz := Tryd.zeroValue89
  have hzc : (Builtin.zeroCells #[.string ByteArray.empty, .slice none 0 0] 1).toList = [.string ByteArray.empty, .slice none 0 0] := by
    apply List.ext_getElem
    · simp [Builtin.zeroCells]
    · intro i h1 h2
      simp [Builtin.zeroCells] at h1
      match i, h1 with
      | 0, _ => simp [Builtin.zeroCells]
      | 1, _ => simp [Builtin.zeroCells]
  have hst := run_storeCells_cells (P := Tryd.prog) g k [.string ByteArray.empty, .slice none 0 0] 0 W (by
      intro j hj
      match j, hj with
      | 0, _ => simpa using h0
      | 1, _ => simpa using h1) (by
      intro j hj
      match j, hj with
      | 0, _ => simpa using f0
      | 1, _ => simpa using f1) (by intro v hv; simp at hv; rcases hv with rfl | rfl <;> rfl)
  simp only [Nat.add_zero] at hst
  have hcs : (Value.agg #[.string ByteArray.empty, .slice none 0 0]).cells = #[.string ByteArray.empty, .slice none 0 0] := rfl
  have hz2 : ∀ w, (zeroValue 89).run Tryd.prog w = .ok (.agg #[.string ByteArray.empty, .slice none 0 0]) w := fun w => hz w
  simp [Builtin.clear_, run_underlying Tryd.underlying46, hz2, hcs, hzc, hst]

end Go.Proofs.YtmabngjmfjjogaaDoor
