/- The laws' own marks: markPointS, markRatS, heldRatS, heldPointS, eqRatS; rows that lie apart. · The laws' own marks: markRatS, markPointS, heldRatS, heldPointS. -/
import Derived.Test.YtmabngjmfjjogaaDoorOrbs
import Derived.Test.YtmabngjmfjjogaaDoorMaps
import Derived.Test.YtmabngjmfjjogaaDoorLaws
namespace Go.Proofs.YtmabngjmfjjogaaDoor
open Go.RowKit

/-- Rows in blocks of their own. -/
def Sep (v u : Value) : Prop := ∀ b, v.ownBlock = some b → u.ownBlock ≠ some b
theorem Sep.symm {v u : Value} (h : Sep v u) : Sep u v := fun b h1 h2 => h b h2 h1
theorem sep_rows {b1 b2 s1 s2 n1 n2 : Nat} {e1 e2 : TypeId} {w w' : World} {v u : Value} {xs ys : List Value} (h : w.ownsRow b1 e1 s1 v n1 xs) (k : w'.ownsRow b2 e2 s2 u n2 ys) (hb : w.heap.size ≤ b2) : Sep v u := fun b hv hu => by
  have := (World.ownsRow.lt h b hv).2
  have := (World.ownsRow.lt k b hu).1
  omega
/-- A slice that came in lies below a row of the call's own. -/
def OldP (lo : Nat) (v : Value) (ps : List Pt) : Prop := ps ≠ [] → Old lo v
theorem RdP.oldP {w : World} {v : Value} {ps : List Pt} (h : RdP w v ps) {lo : Nat} (hl : w.heap.size ≤ lo) : OldP lo v ps := fun hn => h.old hn hl
theorem RdP.keepO {lo g : Nat} {w w' : World} {v : Value} {ps : List Pt} (h : RdP w v ps) (hb : But g w w') (ho : OldP lo v ps) (hg : lo ≤ g) : RdP w' v ps := by
  by_cases hn : ps = []
  · subst hn
    obtain ⟨A, c, rfl, h1, h2, -⟩ := h
    exact ⟨A, c, rfl, h1, h2, fun hh => absurd rfl hh⟩
  · exact h.keepU hb ((ho hn).le hg)

/-- What a mark leaves: the world is as it was but for one block, that of the row (or a new one). -/
def Marked (base : Nat) (v : Value) (w w' : World) : Prop := ∃ g, base ≤ g ∧ But g w w' ∧ (v.ownBlock = some g ∨ w.heap.size ≤ g)
theorem OwQ.keepM {g b : Nat} {e : TypeId} {w w' : World} {v u : Value} {qs : List Q} (h : OwQ b e w u qs) (hb : But g w w') (hg : v.ownBlock = some g ∨ w.heap.size ≤ g) (hs : Sep v u) : OwQ b e w' u qs := by
  refine h.keepU hb ?_
  rcases hg with hg | hg
  · exact hs g hg
  · intro hu
    have := (World.ownsRow.lt h g hu).2
    omega
theorem OwP.keepM {g b : Nat} {e : TypeId} {w w' : World} {v u : Value} {qs : List Pt} (h : OwP b e w u qs) (hb : But g w w') (hg : v.ownBlock = some g ∨ w.heap.size ≤ g) (hs : Sep v u) : OwP b e w' u qs := by
  refine h.keepU hb ?_
  rcases hg with hg | hg
  · exact hs g hg
  · intro hu
    have := (World.ownsRow.lt h g hu).2
    omega

/-- The marks k, k + 1, .. -/
def marks (k : Int) : Nat → List Value
  | 0 => []
  | n + 1 => marks k n ++ [.int .i64 (k + n)]
theorem marks_len (k : Int) : ∀ n, (marks k n).length = n
  | 0 => rfl
  | n + 1 => by rw [marks, List.length_append, marks_len k n]; rfl
theorem marks_get (k : Int) : ∀ (n i : Nat), i < n → (marks k n)[i]? = some (.int .i64 (k + i))
  | n + 1, i, h => by
    rw [marks]
    rcases Nat.lt_or_ge i n with h1 | h1
    · rw [List.getElem?_append_left (by rw [marks_len]; exact h1)]; exact marks_get k n i h1
    · obtain rfl : i = n := by omega
      rw [List.getElem?_append_right (by rw [marks_len]; omega), marks_len]; simp

/-- The first m cells are marked. -/
theorem mark_next {xs : List Value} {k : Int} {m : Nat} (h : m < xs.length) : (marks k m ++ xs.drop m).set m (.int .i64 (k + m)) = marks k (m + 1) ++ xs.drop (m + 1) := by
  rw [List.set_append_right _ _ (by rw [marks_len]; omega), marks_len, Nat.sub_self, List.drop_eq_getElem_cons h, List.set_cons_zero, marks, List.append_assoc]
  rfl
theorem ownsRow_lit {base n size : Nat} {e : TypeId} {w : World} {v : Value} {xs : List Value} (h : w.ownsRow base e size v n xs) (h0 : 0 < n) :
    ∃ g cap, v = .slice (some ⟨g, 0, none⟩) n cap ∧ n ≤ cap ∧ cap ≤ maxLen ∧ base ≤ g ∧ g < w.heap.size ∧ (∀ j, j < n * size → w.cell? ⟨g, j, none⟩ = xs[j]?) ∧ ∀ j, w.frozen? ⟨g, j, none⟩ = false := by
  have h0' := h
  rcases h.2 with ⟨rfl, hn⟩ | ⟨g, cap, cur, rfl, hb, hh, hle, hm, -, -⟩
  · omega
  · exact ⟨g, cap, rfl, hle, hm, hb, (Array.getElem?_eq_some_iff.1 hh).1, fun j hj => World.ownsRow.cellAt h0' j hj, fun j => by simp [World.frozen?, hh]⟩

end Go.Proofs.YtmabngjmfjjogaaDoor

namespace Go.Proofs.YtmabngjmfjjogaaDoor
open Go.RowKit

theorem mark_at {xs : List Value} {k u : Int} {m : Nat} (hu : u = k + m) (h : m < xs.length) : (marks k m ++ xs.drop m).set m (.int .i64 u) = marks k (m + 1) ++ xs.drop (m + 1) := by rw [hu]; exact mark_next h
theorem ownsRow_slice {base n size : Nat} {e : TypeId} {w : World} {v : Value} {xs : List Value} (h : w.ownsRow base e size v n xs) : ∃ A cap, v = .slice A n cap ∧ n ≤ cap ∧ cap ≤ maxLen := by
  rcases h.2 with ⟨rfl, rfl⟩ | ⟨g, cap, cur, rfl, hb, hh, hle, hm, -, -⟩
  · exact ⟨none, 0, rfl, Nat.le_refl _, Nat.zero_le _⟩
  · exact ⟨_, _, rfl, hle, hm⟩
theorem ownsRow_at {base n size : Nat} {e : TypeId} {w : World} {v : Value} {xs : List Value} (h : w.ownsRow base e size v n xs) (hb : base ≤ w.heap.size) : ∃ g, base ≤ g ∧ (v.ownBlock = some g ∨ (v.ownBlock = none ∧ w.heap.size ≤ g)) := by
  rcases h.2 with ⟨rfl, rfl⟩ | ⟨g, cap, cur, rfl, hb, hh, hle, hm, -, -⟩
  · exact ⟨w.heap.size, hb, .inr ⟨rfl, Nat.le_refl _⟩⟩
  · exact ⟨g, hb, .inl rfl⟩

def RelMk (base n size g : Nat) (e : TypeId) (v : Value) (xs : List Value) (k : Int) (w : World) (q i : Value) (wr : World) : Prop :=
  ∃ (j : Nat) (kk : Int), j ≤ n ∧ i = .int .i64 j ∧ q = .int .i64 kk ∧ kk = k + j * size ∧ wr.ownsRow base e size v n (marks k (j * size) ++ xs.drop (j * size)) ∧ But g w wr
def RelHd (n size : Nat) (k : Int) (w : World) (q i : Value) (wr : World) : Prop :=
  ∃ (j : Nat) (kk : Int), j ≤ n ∧ i = .int .i64 j ∧ q = .int .i64 kk ∧ kk = k + j * size ∧ Below w.heap.size w wr
def MarkEnd (base : Nat) (e : TypeId) (size : Nat) (v : Value) (n : Nat) (k : Int) (w : World) (x : Ending) (w' : World) : Prop :=
  x = .returned (.int .i64 (k + ((n * size : Nat) : Int))) ∧ ∃ g, base ≤ g ∧ But g w w' ∧ (v.ownBlock = some g ∨ w.heap.size ≤ g) ∧ w'.ownsRow base e size v n (marks k (n * size))


set_option maxHeartbeats 1600000 in
theorem markPointS_is (base n : Nat) (e : TypeId) (v : Value) (xs : List Value) (k : Int) (w : World) (h : w.ownsRow base e 4 v n xs) (hbase : base ≤ w.heap.size) (hn : n ≤ 1048576) (hk : 0 ≤ k ∧ k ≤ 1000000000) :
    Calls Tryd.prog 25 #[v, .int .i64 k] w (MarkEnd base e 4 v n k w) := by
  have hxl := h.1
  obtain ⟨A, cap, rfl, hle, hm⟩ := ownsRow_slice h
  unfold maxLen at hm
  obtain ⟨g, hg1, hg2⟩ := ownsRow_at h hbase
  have HW := Lib.hid h
  have HG := Lib.hid hg2
  clear h
  go_enter Tryd.func25, Tryd.ntmps25
  go_wp2_with fail
  go_loopw [1, 5] (fun q i wr => RelMk base n 4 g e (.slice A n cap) xs k w q i wr) (fun _ i _ => n - (intOf i).toNat)
  case atStart => exact ⟨0, k, Nat.zero_le _, rfl, rfl, by omega, by simpa [marks] using HW.out, But.refl _ _⟩
  case round =>
    obtain ⟨i, kk, hi, rfl, rfl, hkk, hrow, hbut⟩ := hrel
    by_cases hlt : i < n
    · obtain ⟨g', cap', hv, -, -, -, -, -, -⟩ := ownsRow_lit hrow (by omega)
      simp only [Value.slice.injEq, true_and] at hv
      obtain ⟨rfl, rfl⟩ := hv
      obtain rfl : g' = g := by
        rcases HG.out with hh | ⟨hh, -⟩
        · simpa [Value.ownBlock] using hh
        · simp [Value.ownBlock] at hh
      obtain ⟨u0, hu0⟩ : ∃ u, (marks k (i * 4) ++ xs.drop (i * 4))[i * 4]? = some u := ⟨_, List.getElem?_eq_getElem (by rw [List.length_append, marks_len, List.length_drop, hxl]; omega)⟩
      have c0 : wr.cell? ⟨g', i * 4, none⟩ = some u0 := (World.ownsRow.cellAt hrow _ (by omega)).trans hu0
      have f0 : wr.frozen? ⟨g', i * 4, none⟩ = false := World.ownsRow.frozenAt hrow _
      obtain ⟨u1, hu1⟩ : ∃ u, (marks k (i * 4) ++ xs.drop (i * 4))[i * 4 + 1]? = some u := ⟨_, List.getElem?_eq_getElem (by rw [List.length_append, marks_len, List.length_drop, hxl]; omega)⟩
      have c1 : wr.cell? ⟨g', i * 4 + 1, none⟩ = some u1 := (World.ownsRow.cellAt hrow _ (by omega)).trans hu1
      have f1 : wr.frozen? ⟨g', i * 4 + 1, none⟩ = false := World.ownsRow.frozenAt hrow _
      obtain ⟨u2, hu2⟩ : ∃ u, (marks k (i * 4) ++ xs.drop (i * 4))[i * 4 + 2]? = some u := ⟨_, List.getElem?_eq_getElem (by rw [List.length_append, marks_len, List.length_drop, hxl]; omega)⟩
      have c2 : wr.cell? ⟨g', i * 4 + 2, none⟩ = some u2 := (World.ownsRow.cellAt hrow _ (by omega)).trans hu2
      have f2 : wr.frozen? ⟨g', i * 4 + 2, none⟩ = false := World.ownsRow.frozenAt hrow _
      obtain ⟨u3, hu3⟩ : ∃ u, (marks k (i * 4) ++ xs.drop (i * 4))[i * 4 + 3]? = some u := ⟨_, List.getElem?_eq_getElem (by rw [List.length_append, marks_len, List.length_drop, hxl]; omega)⟩
      have c3 : wr.cell? ⟨g', i * 4 + 3, none⟩ = some u3 := (World.ownsRow.cellAt hrow _ (by omega)).trans hu3
      have f3 : wr.frozen? ⟨g', i * 4 + 3, none⟩ = false := World.ownsRow.frozenAt hrow _
      have HR := Lib.hid hrow
      have HB := Lib.hid hbut
      have b0 : (0 : Int) ≤ kk := by omega
      have b1 : kk ≤ 2000000000 := by omega
      have HK := Lib.hid hkk
      clear hrow hbut hkk hu0 hu1 hu2 hu3
      go_wp2_with fail
      have hrow := HR.out
      have s0 := World.ownsRow.stored hrow (i * 4) (.int .i64 (kk))
      have s1 := World.ownsRow.stored s0.1 (i * 4 + 1) (.int .i64 (kk + 1))
      have s2 := World.ownsRow.stored s1.1 (i * 4 + 2) (.int .i64 (kk + 1 + 1))
      have s3 := World.ownsRow.stored s2.1 (i * 4 + 3) (.int .i64 (kk + 1 + 1 + 1))
      have hf := s3.1
      rw [mark_at (xs := xs) (k := k) (u := kk) (m := i * 4) (by have := HK.out; omega) (by rw [hxl]; omega), mark_at (xs := xs) (k := k) (u := kk + 1) (m := i * 4 + 1) (by have := HK.out; omega) (by rw [hxl]; omega), mark_at (xs := xs) (k := k) (u := kk + 1 + 1) (m := i * 4 + 2) (by have := HK.out; omega) (by rw [hxl]; omega), mark_at (xs := xs) (k := k) (u := kk + 1 + 1 + 1) (m := i * 4 + 3) (by have := HK.out; omega) (by rw [hxl]; omega)] at hf
      rw [show i * 4 + 1+1+1+1 = (i + 1) * 4 from by omega] at hf
      have HF := Lib.hid (And.intro hf (But.trans (But.trans (But.trans (But.trans (HB.out) (But.of_grown s0.2 (.inr rfl))) (But.of_grown s1.2 (.inr rfl))) (But.of_grown s2.2 (.inr rfl))) (But.of_grown s3.2 (.inr rfl))))
      clear s0 s1 s2 s3 hf hrow c0 f0 c1 f1 c2 f2 c3 f3
      go_roundw
      case rel => exact ⟨i + 1, kk + 1 + 1 + 1 + 1, by omega, rfl, by go_num, by have := HK.out; omega, HF.out.1, HF.out.2⟩
      case measure => simp [intOf]; omega
    · obtain rfl : i = n := by omega
      have HK := Lib.hid (And.intro hkk (And.intro hrow hbut))
      clear hrow hbut hkk
      go_wp2_with fail
      go_ret
      refine ⟨ret_int ?_, g, hg1, HK.out.2.2, HG.out.imp id (·.2), ?_⟩
      · have := HK.out.1; omega
      · have := HK.out.2.1
        rwa [List.drop_eq_nil_of_le (by omega), List.append_nil] at this


set_option maxHeartbeats 1600000 in
theorem heldPointS_is (base n : Nat) (e : TypeId) (v : Value) (k : Int) (w : World) (h : w.ownsRow base e 4 v n (marks k (n * 4))) (hn : n ≤ 1048576) (hk : 0 ≤ k ∧ k ≤ 1000000000) :
    Calls Tryd.prog 26 #[v, .int .i64 k] w fun e w' => e = .returned (.int .i64 (k + ((n * 4 : Nat) : Int))) ∧ Below w.heap.size w w' := by
  obtain ⟨A, cap, rfl, hle, hm⟩ := ownsRow_slice h
  unfold maxLen at hm
  have HW := Lib.hid h
  clear h
  go_enter Tryd.func26, Tryd.ntmps26
  go_wp2_with fail
  go_loopw [1, 5] (fun q i wr => RelHd n 4 k w q i wr) (fun _ i _ => n - (intOf i).toNat)
  case atStart => exact ⟨0, k, Nat.zero_le _, rfl, rfl, by omega, Below.refl _ _⟩
  case round =>
    obtain ⟨i, kk, hi, rfl, rfl, hkk, hb⟩ := hrel
    by_cases hlt : i < n
    · have hrow := ownsRow_keep HW.out hb
      obtain ⟨g', cap', hv, -, -, -, -, -, -⟩ := ownsRow_lit hrow (by omega)
      simp only [Value.slice.injEq, true_and] at hv
      obtain ⟨rfl, rfl⟩ := hv
      have c0 : wr.cell? ⟨g', i * 4, none⟩ = some (.int .i64 (k + ((i * 4 : Nat) : Int))) := (World.ownsRow.cellAt hrow _ (by omega)).trans (marks_get k _ _ (by omega))
      have c1 : wr.cell? ⟨g', i * 4 + 1, none⟩ = some (.int .i64 (k + ((i * 4 + 1 : Nat) : Int))) := (World.ownsRow.cellAt hrow _ (by omega)).trans (marks_get k _ _ (by omega))
      have c2 : wr.cell? ⟨g', i * 4 + 2, none⟩ = some (.int .i64 (k + ((i * 4 + 2 : Nat) : Int))) := (World.ownsRow.cellAt hrow _ (by omega)).trans (marks_get k _ _ (by omega))
      have c3 : wr.cell? ⟨g', i * 4 + 3, none⟩ = some (.int .i64 (k + ((i * 4 + 3 : Nat) : Int))) := (World.ownsRow.cellAt hrow _ (by omega)).trans (marks_get k _ _ (by omega))
      rw [show k + ((i * 4 : Nat) : Int) = kk from by omega] at c0
      rw [show k + ((i * 4 + 1 : Nat) : Int) = kk + 1 from by omega] at c1
      rw [show k + ((i * 4 + 2 : Nat) : Int) = kk + 1 + 1 from by omega] at c2
      rw [show k + ((i * 4 + 3 : Nat) : Int) = kk + 1 + 1 + 1 from by omega] at c3
      have b0 : (0 : Int) ≤ kk := by omega
      have b1 : kk ≤ 2000000000 := by omega
      have HK := Lib.hid hkk
      clear hrow hkk
      go_wp2_with fail
      go_roundw
      case rel => exact ⟨i + 1, kk + 1 + 1 + 1 + 1, by omega, rfl, by go_num, by have := HK.out; omega, hb⟩
      case measure => simp [intOf]; omega
    · obtain rfl : i = n := by omega
      go_wp2_with fail
      go_ret
      exact ⟨ret_int (by omega), hb⟩

end Go.Proofs.YtmabngjmfjjogaaDoor
