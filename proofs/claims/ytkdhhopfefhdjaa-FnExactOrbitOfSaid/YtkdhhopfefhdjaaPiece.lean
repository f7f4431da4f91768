/- The program's pieceAt: the first piece that has a fraction. -/
import Derived.Test.YtkdhhopfefhdjaaUnit
import Derived.Test.YtkdhhopfefhdjaaFunc
namespace Go.Proofs.Ytkdhhopfefhdjaa
open Go.RowKit

/-- Not left of a fraction. -/
def fromQ (x1 x2 : Int) (p : Pt) : Bool := !lessQ p.1.1 p.1.2 x1 x2

set_option maxHeartbeats 400000 in
theorem pieceF (p1 p2 p3 p4 x1 x2 : Int) (gx : Nat) (W : World) (h0 : W.cell? ⟨gx, 0, none⟩ = some (.int .i64 x1)) (h1 : W.cell? ⟨gx, 1, none⟩ = some (.int .i64 x2)) (s1 : Sm p1) (s2 : Sm p2) (k1 : Sm x1) (k2 : Sm x2) :
    Calls Try.prog 163 #[.agg #[.int .i64 p1, .int .i64 p2, .int .i64 p3, .int .i64 p4], .pointer (some ⟨gx, 0, none⟩)] W fun e W' => e = .returned (.bool (fromQ x1 x2 ((p1, p2), (p3, p4)))) ∧ Below W.heap.size W W' := by
  have hg := lt_of_cell h0
  go_enter Try.func163, Try.ntmps163
  go_wp2_with fail
  refine (less_any p1 p2 x1 x2 s1 s2 k1 k2 _).mono ?_
  rintro e w1 ⟨rfl, hb⟩
  have hB := nextB (B := W.heap.size) (w := W) (by go_grown) (by go_size) hb
  go_wp2_with fail
  go_ret
  exact ⟨rfl, hB⟩

def AllX (ps : List Pt) : Prop := ∀ p ∈ ps, Sm p.1.1 ∧ Sm p.1.2

theorem pieceF_says (ps : List Pt) (x1 x2 : Int) (gx : Nat) (w : World) (hx : AllX ps) (h0 : w.cell? ⟨gx, 0, none⟩ = some (.int .i64 x1)) (h1 : w.cell? ⟨gx, 1, none⟩ = some (.int .i64 x2)) (k1 : Sm x1) (k2 : Sm x2) :
    Says 163 #[.pointer (some ⟨gx, 0, none⟩)] (fromQ x1 x2) ps w :=
  fun W p hb hp => pieceF p.1.1 p.1.2 p.2.1 p.2.2 x1 x2 gx W (cellB hb h0) (cellB hb h1) (hx p hp).1 (hx p hp).2 k1 k2

theorem idxB_bd (b : Pt → Bool) (ps : List Pt) : -1 ≤ idxB b ps ∧ idxB b ps ≤ ps.length := by
  unfold idxB
  cases h : ps.findIdx? b with
  | none => simp
  | some i =>
    have := (List.findIdx?_eq_some_iff_getElem.1 h).1
    simp
    omega

set_option maxHeartbeats 400000 in
theorem pieceAt_is (ps : List Pt) (v : Value) (x1 x2 j k : Int) (w : World) (hv : RdP w v ps) (hx : AllX ps) (k1 : Sm x1) (k2 : Sm x2) (hj : idxB (fromQ x1 x2) ps = j) (hn : -1 ≤ j ∧ j ≤ 1048576) (hk : max (j - 1) 0 = k) :
    Calls Try.prog 137 #[v, .agg #[.int .i64 x1, .int .i64 x2]] w fun e w' => e = .returned (.int .i64 k) ∧ Below w.heap.size w w' := by
  have HV := Lib.hid hv
  have HJ := Lib.hid hj
  have HK := Lib.hid hk
  clear hv hj hk
  go_enter Try.func137, Try.ntmps137
  go_wp2_with fail
  refine (indexPiece (fromQ x1 x2) ps v w.heap.size _ (HV.out.keep ((Below.refl _ _).alloc (Nat.le_refl _) _)) (pieceF_says ps x1 x2 w.heap.size _ hx (by simp [go_sem]) (by simp [go_sem]) k1 k2)).mono ?_
  rintro e w1 ⟨rfl, hb⟩
  have hB := nextB (B := w.heap.size) (w := w) (by go_grown) (by go_size) hb
  clear hb
  rw [HJ.out]
  rcases Int.lt_or_le j 1 with h1 | h1
  · have : k = 0 := by have := HK.out; omega
    subst this
    go_wp2_with fail
    go_ret
    exact ⟨rfl, hB⟩
  · have : k = j - 1 := by have := HK.out; omega
    subst this
    go_wp2_with fail
    go_ret
    exact ⟨rfl, hB⟩

end Go.Proofs.Ytkdhhopfefhdjaa
