/- Cycles: slices.Clone, LimitCycle of both, cycleFrom, orCycle. -/
import Derived.Test.YtkaekjhcphgldaaPer2
namespace Go.Proofs.Ytkaekjhcphgldaa
open Go.RowKit

theorem perFrom_bd {l : List Q} : ∀ (n j : Nat) {a b : Int} {t : Bool}, n + j ≤ l.length → perFrom l n j = (a, b, t) → t = true → 0 ≤ a ∧ 1 ≤ b ∧ a + b < l.length
  | 0, j, a, b, t, _, h, ht => by rw [perFrom] at h; simp only [Prod.mk.injEq] at h; rw [← h.2.2] at ht; cases ht
  | n + 1, j, a, b, t, hn, h, ht => by
    rw [perFrom] at h
    split at h
    · rename_i h0
      have := idxQ_lt (l.take j) (l.getD j (0, 0)) h0
      rw [List.length_take] at this
      simp only [Prod.mk.injEq] at h
      omega
    · exact perFrom_bd n (j + 1) (by omega) h ht
theorem perQ_bd {l : List Q} {a b : Int} (h : perQ l = (a, b, true)) : 0 ≤ a ∧ 1 ≤ b ∧ a + b < l.length := perFrom_bd _ _ (by omega) h rfl

/-- A part of a list. -/
def partQ (l : List Q) (i n : Nat) : List Q := (l.drop i).take n
theorem partQ_len {l : List Q} {i n : Nat} (h : i + n ≤ l.length) : (partQ l i n).length = n := by unfold partQ; rw [List.length_take, List.length_drop]; omega
theorem partQ_get {l : List Q} {i n j : Nat} {q : Q} (h : (partQ l i n)[j]? = some q) : l[i + j]? = some q ∧ j < n := by
  unfold partQ at h
  rw [List.getElem?_take] at h
  split at h
  · rename_i hj; rw [List.getElem?_drop] at h; exact ⟨h, hj⟩
  · cases h
theorem RdQ.part {w : World} {g o n c : Nat} {l : List Q} (h : RdQ w (.slice (some ⟨g, o, none⟩) n c) l) (i m : Nat) (hi : i + m ≤ n) : RdQ w (.slice (some ⟨g, o + i * 2, none⟩) m (c - i)) (partQ l i m) := by
  obtain ⟨A', c', he, h1, h2, h3⟩ := h
  simp only [Value.slice.injEq] at he
  obtain ⟨rfl, rfl, rfl⟩ := he
  have hl := partQ_len (l := l) (i := i) (n := m) hi
  refine ⟨_, c - i, by rw [hl], by rw [hl]; omega, by omega, fun hn => ?_⟩
  obtain ⟨g', o', he, hg, hc⟩ := h3 (by rintro rfl; apply hn; unfold partQ; simp)
  simp only [Option.some.injEq, Addr.mk.injEq, and_true] at he
  obtain ⟨rfl, rfl⟩ := he
  refine ⟨g, o + i * 2, rfl, hg, fun j q hq => ?_⟩
  obtain ⟨hq1, -⟩ := partQ_get hq
  obtain ⟨d0, d1⟩ := hc _ _ hq1
  rw [show o + (i + j) * 2 = o + i * 2 + j * 2 from by omega] at d0 d1
  exact ⟨d0, d1⟩

def cycOf (l : List Q) (r : Int × Int × Bool) : List Q × Bool := if r.2.2 = true then (partQ l r.1.toNat r.2.1.toNat, true) else ([], false)
def cyc0 (l : List Q) (r : Int × Int × Bool) : List Q × Bool := if r.2.2 = true ∧ r.1 = 0 then (l.take r.2.1.toNat, true) else ([], false)
def cycQ (ps : List Pt) (x : Q) (n : Int) : List Q × Bool := cyc0 (orbOf ps x n).1 (perN ps x n)
/-- What a call leaves that gives a slice that reads as fractions, and a bool. -/
def RetQR (w : World) (qs : List Q) (t : Bool) (e : Ending) (w' : World) : Prop := ∃ r, e = .returned (.tuple #[r, .bool t]) ∧ RdQ w' r qs ∧ Below w.heap.size w w'
theorem take_ne_nil {m : List Q} {n : Nat} (h : n ≤ m.length) (h0 : 0 < n) : m.take n ≠ [] := by
  intro e
  have h5 : (m.take n).length = n := by rw [List.length_take]; omega
  rw [e] at h5; simp at h5; omega
theorem perOf_yes {ps : List Pt} {x : Q} {k : Nat} {a b : Int} (h : perOf ps x k = (a, b, true)) : (orbQ ps x k).length = k + 1 ∧ perQ (orbQ ps x k) = (a, b, true) := by
  unfold perOf at h
  split at h
  · rename_i hf; exact ⟨hf, h⟩
  · simp at h
def OldQ (lo : Nat) (v : Value) (qs : List Q) : Prop := qs ≠ [] → Old lo v
theorem RdQ.oldQ {w : World} {v : Value} {qs : List Q} (h : RdQ w v qs) {lo : Nat} (hl : w.heap.size ≤ lo) : OldQ lo v qs := by
  intro hn
  obtain ⟨A, c, rfl, h1, h2, h3⟩ := h
  obtain ⟨b, o, rfl, hb, -⟩ := h3 hn
  intro A' n c' e
  cases e
  exact Nat.lt_of_lt_of_le hb hl
theorem RdQ.keepO {lo g : Nat} {w w' : World} {v : Value} {qs : List Q} (h : RdQ w v qs) (hb : But g w w') (ho : OldQ lo v qs) (hg : lo ≤ g) : RdQ w' v qs := by
  obtain ⟨A, c, rfl, h1, h2, h3⟩ := h
  refine ⟨A, c, rfl, h1, h2, fun hn => ?_⟩
  obtain ⟨b, o, rfl, hg1, hc⟩ := h3 hn
  have hlt : b < lo := ho hn _ _ _ rfl
  refine ⟨b, o, rfl, Nat.lt_of_lt_of_le hg1 hb.size, fun i p hp => ?_⟩
  obtain ⟨a1, a2⟩ := hc i p hp
  exact ⟨cellU hb (by omega) a1, cellU hb (by omega) a2⟩
theorem RdQ.nil (w : World) : RdQ w (.slice none 0 0) [] := ⟨none, 0, rfl, Nat.le_refl _, Nat.zero_le _, fun h => absurd rfl h⟩
def limQ (ps : List Pt) (x : Q) (n : Int) : List Q × Bool := cycOf (orbOf ps x n).1 (perN ps x n)
theorem limQ_len {ps : List Pt} {x : Q} {n : Int} {l : List Q} {t : Bool} (h : limQ ps x n = (l, t)) : l.length ≤ 1048576 := by
  rcases ho : orbOf ps x n with ⟨m, tt⟩
  have := orbOf_len ho
  unfold limQ cycOf at h
  rw [ho] at h
  split at h
  · obtain ⟨rfl, -⟩ := Prod.mk.inj h
    unfold partQ
    rw [List.length_take, List.length_drop]; simp only; omega
  · obtain ⟨rfl, -⟩ := Prod.mk.inj h; simp

set_option maxRecDepth 100000 in
set_option maxHeartbeats 800000 in
theorem clone_is (l : List Q) (g o n c : Nat) (w : World) (hv : RdQ w (.slice (some ⟨g, o, none⟩) n c) l) (hl : l.length ≤ 100000) (h0 : l ≠ []) :
    Calls Try.prog 111 #[.slice (some ⟨g, o, none⟩) n c] w (RetQ w l) := by
  obtain ⟨A', c', he, h1, h2, h3⟩ := hv
  simp only [Value.slice.injEq] at he
  obtain ⟨rfl, rfl, rfl⟩ := he
  obtain ⟨g', o', he, hg, hc⟩ := h3 h0
  simp only [Option.some.injEq, Addr.mk.injEq, and_true] at he
  obtain ⟨rfl, rfl⟩ := he
  have HC := Lib.hid hc
  have hnz : 0 < l.length := by cases l with | nil => exact absurd rfl h0 | cons _ _ => simp
  clear hc h3 h0
  have hnil := fun (w : World) (a : Option Addr) (n c n' c' : Nat) => Lib.run_eql_slice_nil (P := Try.prog) w 24 37 a n c n' c' Try.underlying24
  go_enter Try.func111, Try.ntmps111
  go_wp2_with (at_builtin; refine append_q _ rfl _ _ rfl w.heap.size _ [] rfl ?own g o _ l rfl ?cs ?len ?base ?_)
  case own => exact World.ownsRow_made w #[] 0 (Nat.le_refl _) (Nat.zero_le _) rfl
  case cs => exact fun i q hq => ⟨cellA _ (HC.out i q hq).1, cellA _ (HC.out i q hq).2⟩
  case len => simp; omega
  case base => go_size
  intro v' w' hown hb
  have HO := Lib.hid (show OwQ w.heap.size 37 w' v' l by simpa using hown)
  have hB : Below w.heap.size w w' := Below.trans (by go_grown) hb
  clear hown hb
  go_wp2_with fail
  go_ret
  exact ⟨_, rfl, HO.out, hB⟩

end Go.Proofs.Ytkaekjhcphgldaa
