/- Slices of points and of fractions: what they read as, and what the call's own rows are good for. · The laws' own functions on points: toPoint, toPointS, szPointS, eqPoint, eqPointS. · Plain facts: when points are a map. No program in sight. · isUnit, isCoord, less, zero, oneRat of the program; raUnit, imCoord, raInt of the reference. · slices.IndexFunc and slices.ContainsFunc at points: the first point for which a function says yes. · Appending one fraction or one point, or a whole list, to a row of the call's own. · xsOf, isRising and isMap of the program. · A statement that draws its order, whose calls make memory but change nothing that was there: one walk in the order of the text. · isMap and IsMap of the program. · imGood and IsMap of the reference; IsMap of the program. · An argument that is a slice of points, opened; and the laws' own szPointS, eqPoint, eqPointS. · eqPointS on two slices that read the same; spec.IsMap, impl.IsMap. · eqRatS on two slices that read the same. -/
import Derived.Test.YtkeajfgcjmhmiaaFrac
import Derived.Deep.OwnRows
import Derived.Test.YtkeajfgcjmhmiaaLaws
import Derived.Deep.RegionHeld3
import Derived.Deep.DrawnRows
import Derived.Deep.Quiet
namespace Go.Proofs.Ytkeajfgcjmhmiaa
open Go.RowKit

/-- The cells of points, of fractions. -/
def rowP (ps : List Pt) : List Value := ps.flatMap fun p => [.int .i64 p.1.1, .int .i64 p.1.2, .int .i64 p.2.1, .int .i64 p.2.2]
def rowQ (qs : List Q) : List Value := qs.flatMap fun q => [.int .i64 q.1, .int .i64 q.2]

theorem rowP_len (ps : List Pt) : (rowP ps).length = ps.length * 4 := by
  induction ps with
  | nil => rfl
  | cons p ps ih => unfold rowP at *; rw [List.flatMap_cons, List.length_append, ih]; simp; omega
theorem rowQ_len (qs : List Q) : (rowQ qs).length = qs.length * 2 := by
  induction qs with
  | nil => rfl
  | cons p ps ih => unfold rowQ at *; rw [List.flatMap_cons, List.length_append, ih]; simp; omega
theorem rowP_app (a b : List Pt) : rowP (a ++ b) = rowP a ++ rowP b := by unfold rowP; rw [List.flatMap_append]
theorem rowQ_app (a b : List Q) : rowQ (a ++ b) = rowQ a ++ rowQ b := by unfold rowQ; rw [List.flatMap_append]

theorem rowP_get : ∀ (ps : List Pt) (i : Nat) (p : Pt), ps[i]? = some p → (rowP ps)[i * 4]? = some (.int .i64 p.1.1) ∧ (rowP ps)[i * 4 + 1]? = some (.int .i64 p.1.2) ∧ (rowP ps)[i * 4 + 2]? = some (.int .i64 p.2.1) ∧ (rowP ps)[i * 4 + 3]? = some (.int .i64 p.2.2)
  | [], i, p, h => by simp at h
  | q :: ps, 0, p, h => by simp at h; subst h; simp [rowP]
  | q :: ps, i + 1, p, h => by
    have ih := rowP_get ps i p (by simpa using h)
    have e : rowP (q :: ps) = [.int .i64 q.1.1, .int .i64 q.1.2, .int .i64 q.2.1, .int .i64 q.2.2] ++ rowP ps := by simp [rowP]
    have f : ∀ j, (rowP (q :: ps))[j + 4]? = (rowP ps)[j]? := fun j => by rw [e, List.getElem?_append_right (by simp)]; simp
    rw [show (i + 1) * 4 = i * 4 + 4 from by omega, show i * 4 + 4 + 1 = i * 4 + 1 + 4 from by omega, show i * 4 + 4 + 2 = i * 4 + 2 + 4 from by omega, show i * 4 + 4 + 3 = i * 4 + 3 + 4 from by omega, f, f, f, f]
    exact ih
theorem rowQ_get : ∀ (qs : List Q) (i : Nat) (q : Q), qs[i]? = some q → (rowQ qs)[i * 2]? = some (.int .i64 q.1) ∧ (rowQ qs)[i * 2 + 1]? = some (.int .i64 q.2)
  | [], i, p, h => by simp at h
  | q :: ps, 0, p, h => by simp at h; subst h; simp [rowQ]
  | q :: ps, i + 1, p, h => by
    have ih := rowQ_get ps i p (by simpa using h)
    have e : rowQ (q :: ps) = [.int .i64 q.1, .int .i64 q.2] ++ rowQ ps := by simp [rowQ]
    have f : ∀ j, (rowQ (q :: ps))[j + 2]? = (rowQ ps)[j]? := fun j => by rw [e, List.getElem?_append_right (by simp)]; simp
    rw [show (i + 1) * 2 = i * 2 + 2 from by omega, show i * 2 + 2 + 1 = i * 2 + 1 + 2 from by omega, f, f]
    exact ih

/-- A row of the call's own: what it reads as. -/
def OwP (base : Nat) (e : TypeId) (w : World) (v : Value) (ps : List Pt) : Prop := w.ownsRow base e 4 v ps.length (rowP ps)
def OwQ (base : Nat) (e : TypeId) (w : World) (v : Value) (qs : List Q) : Prop := w.ownsRow base e 2 v qs.length (rowQ qs)

theorem OwP.read {base : Nat} {e : TypeId} {w : World} {v : Value} {ps : List Pt} (h : OwP base e w v ps) : RdP w v ps := by
  have h0 := h
  rcases h.2 with ⟨rfl, hn⟩ | ⟨g, cap, cur, rfl, hb, hh, hl, hm, hs, hx⟩
  · have : ps = [] := List.eq_nil_of_length_eq_zero hn
    subst this
    exact ⟨_, _, rfl, Nat.le_refl _, by simp [maxLen], fun hne => absurd rfl hne⟩
  · refine ⟨_, _, rfl, hl, hm, fun _ => ⟨g, 0, rfl, ?_, fun i p hp => ?_⟩⟩
    · exact (Array.getElem?_eq_some_iff.1 hh).1
    · have hi : i < ps.length := (List.getElem?_eq_some_iff.1 hp).1
      obtain ⟨a, b, c, d⟩ := rowP_get ps i p hp
      have hc := fun j hj => World.ownsRow.cellAt h0 j hj
      refine ⟨?_, ?_, ?_, ?_⟩
      · rw [Nat.zero_add, hc _ (by omega)]; exact a
      · rw [Nat.zero_add, hc _ (by omega)]; exact b
      · rw [Nat.zero_add, hc _ (by omega)]; exact c
      · rw [Nat.zero_add, hc _ (by omega)]; exact d
theorem OwQ.read {base : Nat} {e : TypeId} {w : World} {v : Value} {qs : List Q} (h : OwQ base e w v qs) : RdQ w v qs := by
  have h0 := h
  rcases h.2 with ⟨rfl, hn⟩ | ⟨g, cap, cur, rfl, hb, hh, hl, hm, hs, hx⟩
  · have : qs = [] := List.eq_nil_of_length_eq_zero hn
    subst this
    exact ⟨_, _, rfl, Nat.le_refl _, by simp [maxLen], fun hne => absurd rfl hne⟩
  · refine ⟨_, _, rfl, hl, hm, fun _ => ⟨g, 0, rfl, ?_, fun i p hp => ?_⟩⟩
    · exact (Array.getElem?_eq_some_iff.1 hh).1
    · have hi : i < qs.length := (List.getElem?_eq_some_iff.1 hp).1
      obtain ⟨a, b⟩ := rowQ_get qs i p hp
      have hc := fun j hj => World.ownsRow.cellAt h0 j hj
      refine ⟨?_, ?_⟩
      · rw [Nat.zero_add, hc _ (by omega)]; exact a
      · rw [Nat.zero_add, hc _ (by omega)]; exact b

theorem ownsRow_keep {base : Nat} {e : TypeId} {size n : Nat} {w w' : World} {v : Value} {xs : List Value} (h : w.ownsRow base e size v n xs) (hb : Below w.heap.size w w') : w'.ownsRow base e size v n xs := by
  obtain ⟨h1, h2⟩ := h
  refine ⟨h1, ?_⟩
  rcases h2 with h2 | ⟨g, cap, cur, rfl, hg, hh, h3⟩
  · exact .inl h2
  · have hlt : g < w.heap.size := (Array.getElem?_eq_some_iff.1 hh).1
    exact .inr ⟨g, cap, cur, rfl, hg, (hb.block g hlt).trans hh, h3⟩
theorem OwP.keep {base : Nat} {e : TypeId} {w w' : World} {v : Value} {ps : List Pt} (h : OwP base e w v ps) (hb : Below w.heap.size w w') : OwP base e w' v ps := ownsRow_keep h hb
theorem OwQ.keep {base : Nat} {e : TypeId} {w w' : World} {v : Value} {qs : List Q} (h : OwQ base e w v qs) (hb : Below w.heap.size w w') : OwQ base e w' v qs := ownsRow_keep h hb

/-- The j-th cell of points. -/
def cellP (ps : List Pt) (j : Nat) : Value := (rowP ps).getD j (.int .i64 0)
theorem cellP_get {ps : List Pt} {i : Nat} {p : Pt} (h : ps[i]? = some p) : cellP ps (i * 4) = .int .i64 p.1.1 ∧ cellP ps (i * 4 + 1) = .int .i64 p.1.2 ∧ cellP ps (i * 4 + 2) = .int .i64 p.2.1 ∧ cellP ps (i * 4 + 3) = .int .i64 p.2.2 := by
  obtain ⟨a, b, c, d⟩ := rowP_get ps i p h
  simp only [cellP, List.getD_eq_getElem?_getD, a, b, c, d, Option.getD_some, and_self]

/-- A block of n points' cells that is known whole is a row of the call's own. -/
theorem OwP.of_row {base g : Nat} {e : TypeId} {w : World} {ps : List Pt} {f : Nat → Value} (h : w.rowIs g e (ps.length * 4) f) (hf : ∀ j, j < ps.length * 4 → f j = cellP ps j) (hb : base ≤ g) (hm : ps.length ≤ maxLen) :
    OwP base e w (.slice (some ⟨g, 0, none⟩) ps.length ps.length) ps := by
  obtain ⟨c, hh, hs, hc⟩ := h
  refine ⟨rowP_len ps, .inr ⟨g, _, c, rfl, hb, hh, Nat.le_refl _, hm, hs, ?_⟩⟩
  apply List.ext_getElem?
  intro j
  rw [List.getElem?_take]
  split
  · rename_i hj
    rw [Array.getElem?_toList, hc j hj, hf j hj, cellP, List.getD_eq_getElem?_getD, List.getElem?_eq_getElem (by rw [rowP_len]; omega)]
    rfl
  · rename_i hj
    rw [List.getElem?_eq_none]
    rw [rowP_len]; omega

end Go.Proofs.Ytkeajfgcjmhmiaa

namespace Go.Proofs.Ytkeajfgcjmhmiaa
open Go.RowKit

/-- The cells of a new slice of points. -/
def zerosP (n : Nat) : Array Value := madeCells #[.int .i64 0, .int .i64 0, .int .i64 0, .int .i64 0] (n * 4)
theorem zerosP_at (n j : Nat) (h : j < n * 4) : (zerosP n)[j]? = some (.int .i64 0) := by
  unfold zerosP madeCells
  have h4 : j % 4 = 0 ∨ j % 4 = 1 ∨ j % 4 = 2 ∨ j % 4 = 3 := by omega
  rcases h4 with h4 | h4 | h4 | h4 <;> simp [h, h4]
theorem zerosP_size (n : Nat) : (zerosP n).size = n * 4 := by unfold zerosP; exact size_madeCells _ _

theorem Try.infoP : (Try.prog.info? 43).map (fun i => (i.zero, i.size, i.bytes)) = some (some (.agg #[.int .i64 0, .int .i64 0, .int .i64 0, .int .i64 0]), 4, 32) := by kernel_rfl
theorem run_makeP (n : Nat) (hn : n ≤ 1048576) (w : World) : (Instr.makeSlice 23 (.int .i64 (n : Int)) (.int .i64 (n : Int))).run Try.prog w = .ok (.slice (some ⟨w.heap.size, 0, none⟩) n n) (w.alloc (.cells (zerosP n) 43)) := by
  obtain ⟨i, hi, hz, hs, hb⟩ := info_parts Try.infoP
  have h := run_make (P := Try.prog) w 23 43 i _ Try.underlying23 hi hz .i64 .i64 n n (by omega) (Int.le_refl _) (by rw [hb]; omega) (by omega)
  simp only [Int.toNat_natCast, hs] at h
  exact h

/-- A call that gives a row of points of its own. -/
def RetP (w : World) (ps : List Pt) (e : Ending) (w' : World) : Prop := ∃ r, e = .returned r ∧ OwP w.heap.size 43 w' r ps ∧ Below w.heap.size w w'

def fillP (ps : List Pt) (k : Nat) (j : Nat) : Value := if j < k * 4 then cellP ps j else .int .i64 0
def RelTo (ps : List Pt) (w : World) (i : Value) (wr : World) : Prop :=
  ∃ k : Nat, k ≤ ps.length ∧ i = .int .i64 k ∧ wr.rowIs w.heap.size 43 (ps.length * 4) (fillP ps k) ∧ Below w.heap.size w wr

theorem fillP_step {ps : List Pt} {k : Nat} {p : Pt} (h : ps[k]? = some p) {w : World} {g n : Nat} {t : TypeId} (hr : w.rowIs g t n (fillP ps k)) :
    ((((w.setCell ⟨g, k * 4, none⟩ (.int .i64 p.1.1)).setCell ⟨g, k * 4 + 1, none⟩ (.int .i64 p.1.2)).setCell ⟨g, k * 4 + 2, none⟩ (.int .i64 p.2.1)).setCell ⟨g, k * 4 + 3, none⟩ (.int .i64 p.2.2)).rowIs g t n (fillP ps (k + 1)) := by
  obtain ⟨a, b, c, d⟩ := cellP_get h
  refine (World.rowIs.set (World.rowIs.set (World.rowIs.set (World.rowIs.set hr _ _) _ _) _ _) _ _).congr fun j _ => ?_
  unfold fillP
  by_cases h3 : j = k * 4 + 3
  · subst h3; simp only [if_true]; rw [if_pos (by omega), d]
  · rw [if_neg h3]
    by_cases h2 : j = k * 4 + 2
    · subst h2; simp only [if_true]; rw [if_pos (by omega), c]
    · rw [if_neg h2]
      by_cases h1 : j = k * 4 + 1
      · subst h1; simp only [if_true]; rw [if_pos (by omega), b]
      · rw [if_neg h1]
        by_cases h0 : j = k * 4
        · subst h0; simp only [if_true]; rw [if_pos (by omega), a]
        · rw [if_neg h0]
          by_cases hlt : j < k * 4
          · rw [if_pos hlt, if_pos (by omega)]
          · rw [if_neg hlt, if_neg (by omega)]

end Go.Proofs.Ytkeajfgcjmhmiaa

namespace Go.Proofs.Ytkeajfgcjmhmiaa
open Go.RowKit

/-- A fraction is valid and from 0 to 1; .. and of a small denominator. -/
def unitQ (n d : Int) : Bool := okQ n d && decide (0 ≤ n ∧ n ≤ d)
def coordQ (n d : Int) : Bool := unitQ n d && decide (d ≤ 100)
def lessQ (n1 d1 n2 d2 : Int) : Bool := decide (n1 * d2 < n2 * d1)

theorem unitQ_ok {n d : Int} (h : unitQ n d = true) : okQ n d = true := by
  simp only [unitQ, Bool.and_eq_true] at h; exact h.1
theorem unitQ_bd {n d : Int} (h : unitQ n d = true) : 0 ≤ n ∧ n ≤ d ∧ 1 ≤ d ∧ d ≤ 1000000000 := by
  simp only [unitQ, Bool.and_eq_true, decide_eq_true_eq] at h
  have := okQ_bd h.1; omega
theorem coordQ_unit {n d : Int} (h : coordQ n d = true) : unitQ n d = true := by
  simp only [coordQ, Bool.and_eq_true] at h; exact h.1
theorem coordQ_bd {n d : Int} (h : coordQ n d = true) : 0 ≤ n ∧ n ≤ d ∧ 1 ≤ d ∧ d ≤ 100 := by
  have h1 := unitQ_bd (coordQ_unit h)
  simp only [coordQ, Bool.and_eq_true, decide_eq_true_eq] at h
  omega
theorem lessQ_cmp (n1 d1 n2 d2 : Int) : lessQ n1 d1 n2 d2 = decide (cmpQ n1 d1 n2 d2 < 0) := by
  unfold lessQ cmpQ
  by_cases h : n1 * d2 < n2 * d1
  · rw [if_pos h]; simp [h]
  · rw [if_neg h]; split <;> simp [h]

/-- Fractions rise. -/
def risingB : List Q → Bool
  | [] => true
  | [_] => true
  | x :: y :: r => lessQ x.1 x.2 y.1 y.2 && risingB (y :: r)

theorem risingB_iff : ∀ l : List Q, risingB l = true ↔ ∀ (i : Nat) (x y : Q), l[i]? = some x → l[i + 1]? = some y → lessQ x.1 x.2 y.1 y.2 = true
  | [] => by simp [risingB]
  | [x] => by
    constructor
    · intro _ i a b ha hb
      simp at hb
    · intro _; rfl
  | x :: y :: r => by
    rw [risingB, Bool.and_eq_true, risingB_iff (y :: r)]
    constructor
    · rintro ⟨h1, h2⟩ i a b ha hb
      cases i with
      | zero => simp at ha hb; subst ha hb; exact h1
      | succ i => exact h2 i a b (by simpa using ha) (by simpa using hb)
    · intro h
      exact ⟨h 0 x y (by simp) (by simp), fun i a b ha hb => h (i + 1) a b (by simpa using ha) (by simpa using hb)⟩

/-- Points are a map. -/
def okMap (ps : List Pt) : Bool :=
  decide (2 ≤ ps.length ∧ ps.length ≤ 12) && ps.all (fun p => coordQ p.1.1 p.1.2 && coordQ p.2.1 p.2.2) &&
    decide ((ps.head?).map (·.1) = some (0, 1)) && decide ((ps.getLast?).map (·.1) = some (1, 1)) && risingB (ps.map (·.1))

theorem okMap_len {ps : List Pt} (h : okMap ps = true) : 2 ≤ ps.length ∧ ps.length ≤ 12 := by
  simp only [okMap, Bool.and_eq_true, decide_eq_true_eq] at h; exact h.1.1.1.1
theorem okMap_coord {ps : List Pt} (h : okMap ps = true) {i : Nat} {p : Pt} (hp : ps[i]? = some p) : coordQ p.1.1 p.1.2 = true ∧ coordQ p.2.1 p.2.2 = true := by
  simp only [okMap, Bool.and_eq_true, decide_eq_true_eq, List.all_eq_true] at h
  exact h.1.1.1.2 p (List.mem_of_getElem? hp)
theorem okMap_first {ps : List Pt} (h : okMap ps = true) : (ps.head?).map (·.1) = some (0, 1) := by
  simp only [okMap, Bool.and_eq_true, decide_eq_true_eq] at h; exact h.1.1.2
theorem okMap_last {ps : List Pt} (h : okMap ps = true) : (ps.getLast?).map (·.1) = some (1, 1) := by
  simp only [okMap, Bool.and_eq_true, decide_eq_true_eq] at h; exact h.1.2
theorem okMap_rising {ps : List Pt} (h : okMap ps = true) {i : Nat} {p q : Pt} (hp : ps[i]? = some p) (hq : ps[i + 1]? = some q) : lessQ p.1.1 p.1.2 q.1.1 q.1.2 = true := by
  simp only [okMap, Bool.and_eq_true] at h
  exact (risingB_iff _).1 h.2 i p.1 q.1 (by simp [hp]) (by simp [hq])

end Go.Proofs.Ytkeajfgcjmhmiaa

namespace Go.Proofs.Ytkeajfgcjmhmiaa
open Go.RowKit

theorem zero_any (w : World) : Calls Try.prog 43 #[] w fun e w' => e = .returned (.agg #[.int .i64 0, .int .i64 1]) ∧ Below w.heap.size w w' := by
  go_enter Try.func43, Try.ntmps43
  go_wp2_with fail
  refine bodyPost_ret (v := .agg #[.int .i64 0, .int .i64 1]) (by simp [results, Try.results43, go_sem]) rfl ⟨rfl, ?_⟩
  go_grown
theorem oneRat_any (w : World) : Calls Try.prog 44 #[] w fun e w' => e = .returned (.agg #[.int .i64 1, .int .i64 1]) ∧ Below w.heap.size w w' := by
  go_enter Try.func44, Try.ntmps44
  go_wp2_with fail
  refine bodyPost_ret (v := .agg #[.int .i64 1, .int .i64 1]) (by simp [results, Try.results44, go_sem]) rfl ⟨rfl, ?_⟩
  go_grown
theorem raInt_any (n : Int) (w : World) : Calls Try.prog 50 #[.int .i64 n] w fun e w' => e = .returned (.agg #[.int .i64 n, .int .i64 1]) ∧ Below w.heap.size w w' := by
  go_enter Try.func50, Try.ntmps50
  go_wp2_with fail
  refine bodyPost_ret (v := .agg #[.int .i64 n, .int .i64 1]) (by simp [results, Try.results50, go_sem]) rfl ⟨rfl, ?_⟩
  go_grown

theorem less_any (n1 d1 n2 d2 : Int) (s1 : Sm n1) (s2 : Sm d1) (k1 : Sm n2) (k2 : Sm d2) (w : World) :
    Calls Try.prog 32 #[.agg #[.int .i64 n1, .int .i64 d1], .agg #[.int .i64 n2, .int .i64 d2]] w fun e w' => e = .returned (.bool (lessQ n1 d1 n2 d2)) ∧ Below w.heap.size w w' := by
  have HL := Lib.hid (lessQ_cmp n1 d1 n2 d2)
  have H1 := Lib.hid s1
  have H2 := Lib.hid s2
  have H3 := Lib.hid k1
  have H4 := Lib.hid k2
  clear s1 s2 k1 k2
  go_enter Try.func32, Try.ntmps32
  go_wp2_with fail
  refine (compare_any n1 d1 n2 d2 H1.out H2.out H3.out H4.out _).mono ?_
  rintro e w1 ⟨rfl, hb⟩
  have hB : Below w.heap.size w w1 := nextB (by go_grown) (by go_size) hb
  generalize cmpQ n1 d1 n2 d2 = x at *
  clear hb
  go_wp2_with fail
  go_ret
  exact ⟨ret_bool HL.out.symm, hB⟩

theorem unitQ_no1 {n d : Int} (h : okQ n d = false) : unitQ n d = false := by simp [unitQ, h]
theorem unitQ_yes {n d : Int} (h : okQ n d = true) : unitQ n d = (decide (0 ≤ n) && decide (n ≤ d)) := by simp [unitQ, h]
theorem coordQ_no1 {n d : Int} (h : unitQ n d = false) : coordQ n d = false := by simp [coordQ, h]
theorem coordQ_yes {n d : Int} (h : unitQ n d = true) : coordQ n d = decide (d ≤ 100) := by simp [coordQ, h]

set_option maxHeartbeats 400000 in
theorem isUnit_any (n d : Int) (w : World) :
    Calls Try.prog 37 #[.agg #[.int .i64 n, .int .i64 d]] w fun e w' => e = .returned (.bool (unitQ n d)) ∧ Below w.heap.size w w' := by
  rcases h : okQ n d with _ | _
  · have HS := Lib.hid h
    have HU := Lib.hid (unitQ_no1 h)
    clear h
    go_enter Try.func37, Try.ntmps37
    go_wp2_with fail
    refine (isRat_is n d false HS.out _).mono ?_
    rintro e w1 ⟨rfl, hb⟩
    have hB : Below w.heap.size w w1 := nextB (by go_grown) (by go_size) hb
    clear hb
    go_wp2_with fail
    go_ret
    exact ⟨ret_bool HU.out.symm, hB⟩
  · have HS := Lib.hid h
    have HU := Lib.hid (unitQ_yes h)
    clear h
    by_cases h0 : 0 ≤ n
    all_goals
      go_enter Try.func37, Try.ntmps37
      go_wp2_with fail
      refine (isRat_is n d true HS.out _).mono ?_
      rintro e w1 ⟨rfl, hb⟩
      have c0 : w1.cell? ⟨w.heap.size, 0, none⟩ = some (.int .i64 n) := cellB hb (by simp [go_sem])
      have c1 : w1.cell? ⟨w.heap.size, 1, none⟩ = some (.int .i64 d) := cellB hb (by simp [go_sem])
      have hB : Below w.heap.size w w1 := nextB (by go_grown) (by go_size) hb
      clear hb
      go_wp2_with fail
      go_ret
      exact ⟨ret_bool (by rw [HU.out]; simp; try omega), hB⟩

set_option maxHeartbeats 400000 in
theorem raUnit_any (n d : Int) (w : World) :
    Calls Try.prog 28 #[.agg #[.int .i64 n, .int .i64 d]] w fun e w' => e = .returned (.bool (unitQ n d)) ∧ Below w.heap.size w w' := by
  rcases h : okQ n d with _ | _
  · have HS := Lib.hid h
    have HU := Lib.hid (unitQ_no1 h)
    clear h
    go_enter Try.func28, Try.ntmps28
    go_wp2_with fail
    refine (raGood_is n d false HS.out _).mono ?_
    rintro e w1 ⟨rfl, hb⟩
    have hB : Below w.heap.size w w1 := nextB (by go_grown) (by go_size) hb
    clear hb
    go_wp2_with fail
    go_ret
    exact ⟨ret_bool HU.out.symm, hB⟩
  · have HS := Lib.hid h
    have HU := Lib.hid (unitQ_yes h)
    clear h
    by_cases h0 : 0 ≤ n ∧ n ≤ d
    · go_enter Try.func28, Try.ntmps28
      go_wp2_with fail
      refine (raGood_is n d true HS.out _).mono ?_
      rintro e w1 ⟨rfl, hb⟩
      have c0 : w1.cell? ⟨w.heap.size, 0, none⟩ = some (.int .i64 n) := cellB hb (by simp [go_sem])
      have c1 : w1.cell? ⟨w.heap.size, 1, none⟩ = some (.int .i64 d) := cellB hb (by simp [go_sem])
      have hB : Below w.heap.size w w1 := nextB (by go_grown) (by go_size) hb
      clear hb
      go_wp2_with fail
      refine (l1In_yes n 0 d h0.1 h0.2 _).mono ?_
      rintro e w2 ⟨rfl, rfl⟩
      go_wp2_with fail
      go_ret
      exact ⟨ret_bool (by rw [HU.out]; simp; omega), hB⟩
    · have H0 := Lib.hid h0
      clear h0
      go_enter Try.func28, Try.ntmps28
      go_wp2_with fail
      refine (raGood_is n d true HS.out _).mono ?_
      rintro e w1 ⟨rfl, hb⟩
      have c0 : w1.cell? ⟨w.heap.size, 0, none⟩ = some (.int .i64 n) := cellB hb (by simp [go_sem])
      have c1 : w1.cell? ⟨w.heap.size, 1, none⟩ = some (.int .i64 d) := cellB hb (by simp [go_sem])
      have hB : Below w.heap.size w w1 := nextB (by go_grown) (by go_size) hb
      clear hb
      go_wp2_with fail
      refine (l1In_no n 0 d H0.out _).mono ?_
      rintro e w2 ⟨rfl, rfl⟩
      go_wp2_with fail
      go_ret
      exact ⟨ret_bool (by rw [HU.out]; have := H0.out; simp; omega), hB⟩

set_option maxHeartbeats 400000 in
theorem isCoord_any (n d : Int) (w : World) :
    Calls Try.prog 42 #[.agg #[.int .i64 n, .int .i64 d]] w fun e w' => e = .returned (.bool (coordQ n d)) ∧ Below w.heap.size w w' := by
  rcases h : unitQ n d with _ | _
  all_goals
    have HU := Lib.hid h
    have HC := Lib.hid (show coordQ n d = (unitQ n d && decide (d ≤ 100)) from rfl)
    clear h
    go_enter Try.func42, Try.ntmps42
    go_wp2_with fail
    refine (isUnit_any n d _).mono ?_
    rintro e w1 ⟨he, hb⟩
    rw [HU.out] at he
    subst he
    have c1 : w1.cell? ⟨w.heap.size, 1, none⟩ = some (.int .i64 d) := cellB hb (by simp [go_sem])
    have hB : Below w.heap.size w w1 := nextB (by go_grown) (by go_size) hb
    clear hb
    go_wp2_with fail
    go_ret
    exact ⟨ret_bool (by rw [HC.out, HU.out]; simp), hB⟩
set_option maxHeartbeats 400000 in
theorem imCoord_any (n d : Int) (w : World) :
    Calls Try.prog 49 #[.agg #[.int .i64 n, .int .i64 d]] w fun e w' => e = .returned (.bool (coordQ n d)) ∧ Below w.heap.size w w' := by
  rcases h : unitQ n d with _ | _
  all_goals
    have HU := Lib.hid h
    have HC := Lib.hid (show coordQ n d = (unitQ n d && decide (d ≤ 100)) from rfl)
    clear h
    go_enter Try.func49, Try.ntmps49
    go_wp2_with fail
    refine (raUnit_any n d _).mono ?_
    rintro e w1 ⟨he, hb⟩
    rw [HU.out] at he
    subst he
    have c1 : w1.cell? ⟨w.heap.size, 1, none⟩ = some (.int .i64 d) := cellB hb (by simp [go_sem])
    have hB : Below w.heap.size w w1 := nextB (by go_grown) (by go_size) hb
    clear hb
    go_wp2_with fail
    go_ret
    exact ⟨ret_bool (by rw [HC.out, HU.out]; simp), hB⟩

end Go.Proofs.Ytkeajfgcjmhmiaa

namespace Go.Proofs.Ytkeajfgcjmhmiaa
open Go.RowKit

/-- What a function value says of a point, in every world that keeps what was there. -/
def Says (F : FuncId) (cap : Array Value) (b : Pt → Bool) (ps : List Pt) (w : World) : Prop :=
  ∀ (W : World) (p : Pt), Below w.heap.size w W → p ∈ ps → Calls Try.prog F (#[.agg #[.int .i64 p.1.1, .int .i64 p.1.2, .int .i64 p.2.1, .int .i64 p.2.2]] ++ cap) W fun e W' => e = .returned (.bool (b p)) ∧ Below W.heap.size W W'

/-- The place of the first point for which b holds, or -1. -/
def idxB (b : Pt → Bool) (ps : List Pt) : Int := match ps.findIdx? b with | some i => i | none => -1

def NoneB (b : Pt → Bool) (ps : List Pt) (k : Nat) : Prop := ∀ i p, i < k → ps[i]? = some p → b p = false
theorem NoneB.more {b : Pt → Bool} {ps : List Pt} {k : Nat} {p : Pt} (h : NoneB b ps k) (hp : ps[k]? = some p) (hb : b p = false) : NoneB b ps (k + 1) := by
  intro i q hi hq
  by_cases e : i = k
  · subst e; rw [hp] at hq; cases hq; exact hb
  · exact h i q (by omega) hq
theorem NoneB.found {b : Pt → Bool} {ps : List Pt} {k : Nat} {p : Pt} (h : NoneB b ps k) (hp : ps[k]? = some p) (hb : b p = true) : idxB b ps = k := by
  have hk : k < ps.length := (List.getElem?_eq_some_iff.1 hp).1
  have : ps.findIdx? b = some k := by
    rw [List.findIdx?_eq_some_iff_getElem]
    refine ⟨hk, ?_, fun j hj => ?_⟩
    · have := List.getElem?_eq_getElem hk; rw [hp] at this; cases this; exact hb
    · have h2 : j < ps.length := by omega
      have := h j ps[j] hj (List.getElem?_eq_getElem h2)
      simp [this]
  unfold idxB; rw [this]
theorem NoneB.none {b : Pt → Bool} {ps : List Pt} (h : NoneB b ps ps.length) : idxB b ps = -1 := by
  have : ps.findIdx? b = Option.none := by
    rw [List.findIdx?_eq_none_iff]
    intro p hp
    obtain ⟨i, hi, rfl⟩ := List.getElem_of_mem hp
    exact h i _ hi (List.getElem?_eq_getElem hi)
  unfold idxB; rw [this]
theorem idxB_any (b : Pt → Bool) (ps : List Pt) : decide (0 ≤ idxB b ps) = ps.any b := by
  unfold idxB
  cases h : ps.findIdx? b with
  | none =>
    rw [List.findIdx?_eq_none_iff] at h
    have : ps.any b = false := by rw [List.any_eq_false]; intro p hp; rw [h p hp]; decide
    rw [this]; decide
  | some i =>
    rw [List.findIdx?_eq_some_iff_getElem] at h
    obtain ⟨hi, hb, _⟩ := h
    have : ps.any b = true := List.any_eq_true.2 ⟨_, List.getElem_mem hi, hb⟩
    rw [this]; simp

def RelI (b : Pt → Bool) (ps : List Pt) (w : World) (i : Value) (wr : World) : Prop := ∃ k : Nat, k ≤ ps.length ∧ i = .int .i64 k ∧ NoneB b ps k ∧ Below w.heap.size w wr

set_option maxHeartbeats 400000 in
theorem indexIsMap (b : Pt → Bool) (ps : List Pt) (v : Value) (w : World) (hv : RdP w v ps) (hF : Says 41 #[] b ps w) :
    Calls Try.prog 72 #[v, .func (.func 41) #[] #[]] w fun e w' => e = .returned (.int .i64 (idxB b ps)) ∧ Below w.heap.size w w' := by
  obtain ⟨A, c, rfl, hl, hm, hcell⟩ := hv
  unfold maxLen at hm
  have HC := Lib.hid hcell
  have HF := Lib.hid hF
  clear hcell hF
  go_enter Try.func72, Try.ntmps72
  go_wp2_with fail
  go_loopw [8] (fun i wr => RelI b ps w i wr) (fun i _ => ps.length - (intOf i).toNat)
  case atStart => exact ⟨0, Nat.zero_le _, rfl, (fun i q h => by omega), Below.refl _ _⟩
  case round =>
    obtain ⟨k, hk, rfl, hnone, hb⟩ := hrel
    have HN := Lib.hid hnone
    clear hnone
    by_cases hlt : k < ps.length
    · obtain ⟨g, o, rfl, hg, hc⟩ := HC.out (by intro h; rw [h] at hlt; simp at hlt)
      have hq := hc k ps[k] (List.getElem?_eq_getElem hlt)
      have hqk := List.getElem?_eq_getElem hlt
      have hmem := List.getElem_mem hlt
      generalize ps[k] = q at *
      obtain ⟨⟨a1, a2⟩, a3, a4⟩ := q
      obtain ⟨c0, c1, c2, c3⟩ := hq
      rw [← hb.cell (p := ⟨g, _, none⟩) hg] at c0 c1 c2 c3
      clear hc HC
      have HQ := Lib.hid hqk
      have HM := Lib.hid hmem
      clear hqk hmem
      rcases hbb : b ((a1, a2), a3, a4) with _ | _
      all_goals
        have HB := Lib.hid hbb
        clear hbb
        go_wp2_with fail
        refine (HF.out _ _ hb HM.out).mono ?_
        rintro e w1 ⟨he, hb1⟩
        rw [HB.out] at he
        subst he
        have hB := nextW hb hb1
        clear hb1 c0 c1 c2 c3
        go_wp2_with fail
      · go_roundw
        case rel => exact ⟨k + 1, by omega, by go_num, NoneB.more HN.out HQ.out HB.out, hB⟩
        case measure => simp [intOf]; omega
      · have HI := Lib.hid (NoneB.found HN.out HQ.out HB.out)
        go_ret
        exact ⟨ret_int HI.out.symm, hB⟩
    · obtain rfl : k = ps.length := by omega
      have HI := Lib.hid HN.out.none
      go_wp2_with fail
      go_ret
      exact ⟨ret_int HI.out.symm, hb⟩

theorem containsIsMap (b : Pt → Bool) (ps : List Pt) (v : Value) (w : World) (hv : RdP w v ps) (hF : Says 41 #[] b ps w) :
    Calls Try.prog 40 #[v, .func (.func 41) #[] #[]] w fun e w' => e = .returned (.bool (ps.any b)) ∧ Below w.heap.size w w' := by
  have HV := Lib.hid hv
  have HF := Lib.hid hF
  have HI := Lib.hid (idxB_any b ps)
  clear hv hF
  go_enter Try.func40, Try.ntmps40
  go_wp2_with fail
  refine (indexIsMap b ps v _ HV.out HF.out).mono ?_
  rintro e w1 ⟨rfl, hb⟩
  generalize idxB b ps = x at *
  go_wp2_with fail
  go_ret
  exact ⟨ret_bool HI.out, hb⟩



set_option maxHeartbeats 400000 in
theorem indexPiece (b : Pt → Bool) (ps : List Pt) (v : Value) (gx : Nat) (w : World) (hv : RdP w v ps) (hF : Says 86 #[.pointer (some ⟨gx, 0, none⟩)] b ps w) :
    Calls Try.prog 72 #[v, .func (.func 86) #[] #[.pointer (some ⟨gx, 0, none⟩)]] w fun e w' => e = .returned (.int .i64 (idxB b ps)) ∧ Below w.heap.size w w' := by
  obtain ⟨A, c, rfl, hl, hm, hcell⟩ := hv
  unfold maxLen at hm
  have HC := Lib.hid hcell
  have HF := Lib.hid hF
  clear hcell hF
  go_enter Try.func72, Try.ntmps72
  go_wp2_with fail
  go_loopw [8] (fun i wr => RelI b ps w i wr) (fun i _ => ps.length - (intOf i).toNat)
  case atStart => exact ⟨0, Nat.zero_le _, rfl, (fun i q h => by omega), Below.refl _ _⟩
  case round =>
    obtain ⟨k, hk, rfl, hnone, hb⟩ := hrel
    have HN := Lib.hid hnone
    clear hnone
    by_cases hlt : k < ps.length
    · obtain ⟨g, o, rfl, hg, hc⟩ := HC.out (by intro h; rw [h] at hlt; simp at hlt)
      have hq := hc k ps[k] (List.getElem?_eq_getElem hlt)
      have hqk := List.getElem?_eq_getElem hlt
      have hmem := List.getElem_mem hlt
      generalize ps[k] = q at *
      obtain ⟨⟨a1, a2⟩, a3, a4⟩ := q
      obtain ⟨c0, c1, c2, c3⟩ := hq
      rw [← hb.cell (p := ⟨g, _, none⟩) hg] at c0 c1 c2 c3
      clear hc HC
      have HQ := Lib.hid hqk
      have HM := Lib.hid hmem
      clear hqk hmem
      rcases hbb : b ((a1, a2), a3, a4) with _ | _
      all_goals
        have HB := Lib.hid hbb
        clear hbb
        go_wp2_with fail
        refine (HF.out _ _ hb HM.out).mono ?_
        rintro e w1 ⟨he, hb1⟩
        rw [HB.out] at he
        subst he
        have hB := nextW hb hb1
        clear hb1 c0 c1 c2 c3
        go_wp2_with fail
      · go_roundw
        case rel => exact ⟨k + 1, by omega, by go_num, NoneB.more HN.out HQ.out HB.out, hB⟩
        case measure => simp [intOf]; omega
      · have HI := Lib.hid (NoneB.found HN.out HQ.out HB.out)
        go_ret
        exact ⟨ret_int HI.out.symm, hB⟩
    · obtain rfl : k = ps.length := by omega
      have HI := Lib.hid HN.out.none
      go_wp2_with fail
      go_ret
      exact ⟨ret_int HI.out.symm, hb⟩

end Go.Proofs.Ytkeajfgcjmhmiaa

namespace Go.Proofs.Ytkeajfgcjmhmiaa
open Go.RowKit

theorem Try.infoQ : (Try.prog.info? 32).map (fun i => (i.zero, i.size, i.bytes)) = some (some (.agg #[.int .i64 0, .int .i64 0]), 2, 16) := by kernel_rfl
theorem append_q {ops : Array Oper} {rest : List Oper} {o : Oper} {a : Act} {K : Exit → Act → World → Prop} (w : World) (hgd : o.guard = none) (s x : Operand)
    (ho : o.op = .call { callee := .builtin .append, args := #[s, x], argTypes := #[28, 28] })
    (base : Nat) (v : Value) (qs : List Q) (hs : a.eval s = v) (hown : OwQ base 32 w v qs)
    (g off c : Nat) (ns : List Q) (hx : a.eval x = .slice (some ⟨g, off, none⟩) ns.length c) (hc : ∀ i q, ns[i]? = some q → w.cell? ⟨g, off + i * 2, none⟩ = some (.int .i64 q.1) ∧ w.cell? ⟨g, off + i * 2 + 1, none⟩ = some (.int .i64 q.2))
    (hlen : qs.length + ns.length ≤ 1000000) (hbase : base ≤ w.heap.size)
    (h : ∀ v' w', OwQ base 32 w' v' (qs ++ ns) → Below base w w' → wpList Try.prog ops K rest (a.put o.dst v') w') : wpList Try.prog ops K (o :: rest) a w := by
  obtain ⟨i, hi, hz, hsz, hb⟩ := info_parts Try.infoQ
  have hcell : ∀ j u, (rowQ ns)[j]? = some u → w.cell? ((⟨g, off, none⟩ : Addr).add j) = some u := by
    intro j u hj
    have hjl : j < ns.length * 2 := by rw [← rowQ_len]; exact (List.getElem?_eq_some_iff.1 hj).1
    have hi2 : j / 2 < ns.length := by omega
    obtain ⟨b0, b1⟩ := rowQ_get ns (j / 2) _ (List.getElem?_eq_getElem hi2)
    obtain ⟨d0, d1⟩ := hc (j / 2) _ (List.getElem?_eq_getElem hi2)
    have hadd : (⟨g, off, none⟩ : Addr).add j = ⟨g, off + j, none⟩ := by unfold Addr.add; split <;> simp_all
    rw [hadd]
    rcases Nat.mod_two_eq_zero_or_one j with e | e
    · have e2 : j = j / 2 * 2 := by omega
      rw [e2] at hj ⊢
      rw [b0] at hj; cases hj; exact d0
    · have e2 : j = j / 2 * 2 + 1 := by omega
      rw [e2] at hj ⊢
      rw [b1] at hj; cases hj; exact d1
  have hone : ∀ u ∈ rowQ ns, u.oneCell' = true := by
    intro u hu
    simp only [rowQ, List.mem_flatMap] at hu
    obtain ⟨q, _, hq⟩ := hu
    simp at hq
    rcases hq with rfl | rfl <;> rfl
  refine wpList_append_own w hgd s x 28 ho base 32 i _ 2 16 Try.underlying28 hi hz hsz hb rfl (by decide) v qs.length (rowQ qs) hs hown ⟨g, off, none⟩ ns.length c (rowQ ns) hx (rowQ_len _) hcell hone (by unfold maxLen; omega) (by omega) hbase ?_
  intro v' w' h1 h2 _
  refine h v' w' ?_ ?_
  · unfold OwQ; rw [List.length_append, rowQ_app]; exact h1
  · exact (Below.refl _ _).grown h2 hbase (fun k hk => (hown.lt k hk).1)

theorem append_q1 {ops : Array Oper} {rest : List Oper} {o : Oper} {a : Act} {K : Exit → Act → World → Prop} (w : World) (hgd : o.guard = none) (s x : Operand)
    (ho : o.op = .call { callee := .builtin .append, args := #[s, x], argTypes := #[28, 28] })
    (base : Nat) (v : Value) (qs : List Q) (hs : a.eval s = v) (hown : OwQ base 32 w v qs)
    (g c : Nat) (n d : Int) (hx : a.eval x = .slice (some ⟨g, 0, none⟩) 1 c) (c0 : w.cell? ⟨g, 0, none⟩ = some (.int .i64 n)) (c1 : w.cell? ⟨g, 1, none⟩ = some (.int .i64 d))
    (hlen : qs.length ≤ 900000) (hbase : base ≤ w.heap.size)
    (h : ∀ v' w', OwQ base 32 w' v' (qs ++ [(n, d)]) → Below base w w' → wpList Try.prog ops K rest (a.put o.dst v') w') : wpList Try.prog ops K (o :: rest) a w :=
  append_q w hgd s x ho base v qs hs hown g 0 c [(n, d)] hx (fun i q hq => by
    cases i with
    | zero => simp at hq; subst hq; exact ⟨by simpa using c0, by simpa using c1⟩
    | succ i => simp at hq) (by simp; omega) hbase h

theorem Try.infoPa : (Try.prog.info? 43).map (fun i => (i.zero, i.size, i.bytes)) = some (some (.agg #[.int .i64 0, .int .i64 0, .int .i64 0, .int .i64 0]), 4, 32) := by kernel_rfl
theorem append_p1 {ops : Array Oper} {rest : List Oper} {o : Oper} {a : Act} {K : Exit → Act → World → Prop} (w : World) (hgd : o.guard = none) (s x : Operand)
    (ho : o.op = .call { callee := .builtin .append, args := #[s, x], argTypes := #[23, 23] })
    (base : Nat) (v : Value) (ps : List Pt) (hs : a.eval s = v) (hown : OwP base 43 w v ps)
    (g c : Nat) (x1 x2 y1 y2 : Int) (hx : a.eval x = .slice (some ⟨g, 0, none⟩) 1 c) (c0 : w.cell? ⟨g, 0, none⟩ = some (.int .i64 x1)) (c1 : w.cell? ⟨g, 1, none⟩ = some (.int .i64 x2)) (c2 : w.cell? ⟨g, 2, none⟩ = some (.int .i64 y1)) (c3 : w.cell? ⟨g, 3, none⟩ = some (.int .i64 y2))
    (hlen : ps.length ≤ 900000) (hbase : base ≤ w.heap.size)
    (h : ∀ v' w', OwP base 43 w' v' (ps ++ [((x1, x2), y1, y2)]) → Below base w w' → wpList Try.prog ops K rest (a.put o.dst v') w') : wpList Try.prog ops K (o :: rest) a w := by
  obtain ⟨i, hi, hz, hsz, hb⟩ := info_parts Try.infoPa
  have hcell : ∀ j u, (rowP [((x1, x2), y1, y2)])[j]? = some u → w.cell? ((⟨g, 0, none⟩ : Addr).add j) = some u := by
    intro j u hj
    have hadd : (⟨g, 0, none⟩ : Addr).add j = ⟨g, j, none⟩ := by unfold Addr.add; split <;> simp_all
    rw [hadd]
    match j, hj with
    | 0, hj => simp [rowP] at hj; subst hj; exact c0
    | 1, hj => simp [rowP] at hj; subst hj; exact c1
    | 2, hj => simp [rowP] at hj; subst hj; exact c2
    | 3, hj => simp [rowP] at hj; subst hj; exact c3
    | j + 4, hj => simp [rowP] at hj
  have hone : ∀ u ∈ rowP [((x1, x2), y1, y2)], u.oneCell' = true := by
    intro u hu
    simp [rowP] at hu
    rcases hu with rfl | rfl | rfl | rfl <;> rfl
  refine wpList_append_own w hgd s x 23 ho base 43 i _ 4 32 Try.underlying23 hi hz hsz hb rfl (by decide) v ps.length (rowP ps) hs hown ⟨g, 0, none⟩ 1 c (rowP [((x1, x2), y1, y2)]) hx rfl hcell hone (by unfold maxLen; omega) (by omega) hbase ?_
  intro v' w' h1 h2 _
  refine h v' w' ?_ ?_
  · unfold OwP; rw [List.length_append, rowP_app]; exact h1
  · exact (Below.refl _ _).grown h2 hbase (fun k hk => (hown.lt k hk).1)

end Go.Proofs.Ytkeajfgcjmhmiaa

namespace Go.Proofs.Ytkeajfgcjmhmiaa
open Go.RowKit

/-- A call that gives a row of fractions of its own. -/
def RetQ (w : World) (qs : List Q) (e : Ending) (w' : World) : Prop := ∃ r, e = .returned r ∧ OwQ w.heap.size 32 w' r qs ∧ Below w.heap.size w w'

def RelX (ps : List Pt) (w : World) (out i : Value) (wr : World) : Prop :=
  ∃ k : Nat, k ≤ ps.length ∧ i = .int .i64 k ∧ OwQ w.heap.size 32 wr out ((ps.map (·.1)).take k) ∧ Below w.heap.size w wr

theorem take_map_snoc {ps : List Pt} {k : Nat} {p : Pt} (h : ps[k]? = some p) : (ps.map (·.1)).take (k + 1) = (ps.map (·.1)).take k ++ [p.1] := by
  have hk : k < ps.length := (List.getElem?_eq_some_iff.1 h).1
  have : ps[k] = p := by have := List.getElem?_eq_getElem hk; rw [h] at this; cases this; rfl
  rw [List.take_succ_eq_append_getElem (by simpa using hk)]
  simp [this]

set_option maxHeartbeats 800000 in
theorem xsOf_any (ps : List Pt) (v : Value) (w : World) (hv : RdP w v ps) (hn : ps.length ≤ 800000) :
    Calls Try.prog 46 #[v] w (RetQ w (ps.map (·.1))) := by
  obtain ⟨A, c, rfl, hl, hm, hcell⟩ := hv
  unfold maxLen at hm
  have HC := Lib.hid hcell
  clear hcell
  go_enter Try.func46, Try.ntmps46
  go_wp2_with fail
  go_loopw [3, 8] (fun out i wr => RelX ps w out i wr) (fun _ i _ => ps.length - (intOf i).toNat)
  case atStart => exact ⟨0, Nat.zero_le _, rfl, World.ownsRow_nil _ _ _ _, Below.refl _ _⟩
  case round =>
    obtain ⟨k, hk, rfl, hown, hb⟩ := hrel
    have HO := Lib.hid hown
    clear hown
    by_cases hlt : k < ps.length
    · obtain ⟨g, o, rfl, hg, hc⟩ := HC.out (by intro h; rw [h] at hlt; simp at hlt)
      have hq := hc k ps[k] (List.getElem?_eq_getElem hlt)
      have hqk := List.getElem?_eq_getElem hlt
      generalize ps[k] = q at *
      obtain ⟨⟨a1, a2⟩, a3, a4⟩ := q
      obtain ⟨c0, c1, c2, c3⟩ := hq
      rw [← hb.cell (p := ⟨g, _, none⟩) hg] at c0 c1 c2 c3
      clear hc HC
      have HS := Lib.hid (take_map_snoc hqk)
      clear hqk
      have z := hb.size
      go_wp2_with (at_builtin; refine append_q1 _ rfl _ _ rfl w.heap.size _ ((ps.map (·.1)).take k) rfl ?own _ _ a1 a2 rfl ?c0 ?c1 ?len ?base ?_)
      case own => exact (OwQ.keep HO.out (by go_grown))
      case len => omega
      case base => go_size
      intro v' w' hown hb2
      have hB : Below w.heap.size w w' := Below.trans (by go_grown) hb2
      clear hb2 c0 c1 c2 c3
      have HO2 := Lib.hid hown
      clear hown HO
      go_wp2_with fail
      go_roundw
      case rel => exact ⟨k + 1, by omega, by go_num, by rw [HS.out]; exact HO2.out, hB⟩
      case measure => simp [intOf]; omega
    · obtain rfl : k = ps.length := by omega
      have HE := Lib.hid (show OwQ w.heap.size 32 wr u3 (ps.map (·.1)) by have := HO.out; rwa [List.take_of_length_le (by simp)] at this)
      clear HO
      go_wp2_with fail
      go_ret
      exact ⟨_, rfl, HE.out, hb⟩

def AllSm (qs : List Q) : Prop := ∀ q ∈ qs, Sm q.1 ∧ Sm q.2
def UpTo (qs : List Q) (k : Nat) : Prop := ∀ (i : Nat) (x y : Q), i + 1 < k → qs[i]? = some x → qs[i + 1]? = some y → lessQ x.1 x.2 y.1 y.2 = true
theorem UpTo.one (qs : List Q) : UpTo qs 1 := fun i x y h => by omega
theorem UpTo.more {qs : List Q} {k : Nat} {x y : Q} (h : UpTo qs (k + 1)) (hx : qs[k]? = some x) (hy : qs[k + 1]? = some y) (hl : lessQ x.1 x.2 y.1 y.2 = true) : UpTo qs (k + 1 + 1) := by
  intro i a b hi ha hb
  by_cases e : i = k
  · subst e; rw [hx] at ha; rw [hy] at hb; cases ha; cases hb; exact hl
  · exact h i a b (by omega) ha hb
theorem UpTo.fails {qs : List Q} {k : Nat} {x y : Q} (hx : qs[k]? = some x) (hy : qs[k + 1]? = some y) (hl : lessQ x.1 x.2 y.1 y.2 = false) : risingB qs = false := by
  rcases h : risingB qs with _ | _
  · rfl
  · rw [(risingB_iff qs).1 h k x y hx hy] at hl; cases hl
theorem UpTo.whole {qs : List Q} {k : Nat} (h : UpTo qs k) (hk : qs.length ≤ k) : risingB qs = true := by
  rw [risingB_iff]
  intro i x y hx hy
  exact h i x y (by have := (List.getElem?_eq_some_iff.1 hy).1; omega) hx hy

def RelR (qs : List Q) (w : World) (i : Value) (wr : World) : Prop := ∃ k : Nat, k ≤ qs.length ∧ i = .int .i64 (k + 1) ∧ UpTo qs (k + 1) ∧ Below w.heap.size w wr

set_option maxHeartbeats 800000 in
theorem isRising_any (qs : List Q) (v : Value) (w : World) (hv : RdQ w v qs) (hs : AllSm qs) :
    Calls Try.prog 45 #[v] w fun e w' => e = .returned (.bool (risingB qs)) ∧ Below w.heap.size w w' := by
  obtain ⟨A, c, rfl, hl, hm, hcell⟩ := hv
  unfold maxLen at hm
  have HC := Lib.hid hcell
  have HS := Lib.hid hs
  clear hcell hs
  go_enter Try.func45, Try.ntmps45
  go_wp2_with fail
  go_loopw [3] (fun i wr => RelR qs w i wr) (fun i _ => qs.length - (intOf i).toNat)
  case atStart => exact ⟨0, Nat.zero_le _, rfl, UpTo.one _, Below.refl _ _⟩
  case round =>
    obtain ⟨k, hk, rfl, hup, hb⟩ := hrel
    have HU := Lib.hid hup
    clear hup
    by_cases hlt : k + 1 < qs.length
    · obtain ⟨g, o, rfl, hg, hc⟩ := HC.out (by intro h; rw [h] at hlt; simp at hlt)
      have h1 := List.getElem?_eq_getElem (show k < qs.length by omega)
      have h2 := List.getElem?_eq_getElem hlt
      have e1 := hc k _ h1
      have e2 := hc (k + 1) _ h2
      have m1 := HS.out _ (List.getElem_mem (show k < qs.length by omega))
      have m2 := HS.out _ (List.getElem_mem hlt)
      generalize qs[k] = x at *
      generalize qs[k + 1] = y at *
      obtain ⟨x1, x2⟩ := x
      obtain ⟨y1, y2⟩ := y
      obtain ⟨c0, c1⟩ := e1
      obtain ⟨c2, c3⟩ := e2
      rw [← hb.cell (p := ⟨g, _, none⟩) hg] at c0 c1 c2 c3
      clear hc HC HS
      have H1 := Lib.hid h1
      have H2 := Lib.hid h2
      have M1 := Lib.hid m1
      have M2 := Lib.hid m2
      clear h1 h2 m1 m2
      rcases hle : lessQ x1 x2 y1 y2 with _ | _
      all_goals
        have HL := Lib.hid hle
        clear hle
        have b0 : (0 : Int) ≤ (k : Int) := by omega
        have b1 : (k : Int) < (qs.length : Int) := by omega
        have b2 : (k : Int) + 1 < (qs.length : Int) := by omega
        have b3 : (0 : Int) ≤ (k : Int) + 1 := by omega
        have t2 : ((k : Int) + 1).toNat = k + 1 := by omega
        have v1 : IntKind.i64.wrap ((k : Int)) = (k : Int) := IntWalk.i64_in _ (by omega)
        have v2 : IntKind.i64.wrap ((k : Int) + 1) = (k : Int) + 1 := IntWalk.i64_in _ (by omega)
        go_wp2_with fail
        go_region_held3 (fun w' => w'.cell? ⟨g, o + k * 2, none⟩ = some (.int .i64 x1) ∧ w'.cell? ⟨g, o + k * 2 + 1, none⟩ = some (.int .i64 x2) ∧ w'.cell? ⟨g, o + (k + 1) * 2, none⟩ = some (.int .i64 y1) ∧ w'.cell? ⟨g, o + (k + 1) * 2 + 1, none⟩ = some (.int .i64 y2))
          ((first | exact ⟨c0, c1, c2, c3⟩ | exact ⟨cellB hb1 c0, cellB hb1 c1, cellB hb1 c2, cellB hb1 c3⟩))
          ((first | (go_at_call 32; refine (less_any x1 x2 y1 y2 M1.out.1 M1.out.2 M2.out.1 M2.out.2 _).mono ?_; rintro e w1 ⟨he, hb1⟩; rw [HL.out] at he; subst he)))
        have hB : Below w.heap.size w w1 := nextB (X := wr.drew) hb.drew hb.size hb1
        clear hb1 c0 c1 c2 c3 v1 v2 t2 b0 b1 b2 b3
        go_wp2_with fail
      · have HF := Lib.hid (UpTo.fails H1.out H2.out HL.out)
        go_ret
        exact ⟨ret_bool HF.out.symm, hB⟩
      · go_roundw
        case rel => exact ⟨k + 1, by omega, by go_num, UpTo.more HU.out H1.out H2.out HL.out, hB⟩
        case measure => simp [intOf]; omega
    · have HW := Lib.hid (UpTo.whole HU.out (by omega))
      go_wp2_with fail
      go_ret
      exact ⟨ret_bool HW.out.symm, hb⟩

end Go.Proofs.Ytkeajfgcjmhmiaa

namespace Go.Proofs.Ytkeajfgcjmhmiaa
open Go.RowKit

/-- The worlds in which nothing has turned of what was there in w. -/
def Bel (w : World) (w' : World) : Prop := Below w.heap.size w w'
theorem Bel.out {w w' : World} (h : Bel w w') : Below w.heap.size w w' := h
theorem Bel.next {w w' w'' : World} (h : Bel w w') (hb : Below w'.heap.size w' w'') : Bel w w'' := nextW h hb

/-- The walk of a drawn statement in the order of its text, shut against unfolding. -/
structure WQ (P : Program) (ops : Array Oper) (C : World → Prop) (Q : Act → Prop) (l : List Oper) (a : Act) : Prop where
  out : wpQuiet P ops C Q l a

section
variable {P : Program} {ops : Array Oper} {C : World → Prop} {Q : Act → Prop} {o : Oper} {rest : List Oper} {a : Act}
theorem stepN (h : Q a) : WQ P ops C Q [] a := ⟨h⟩
theorem stepS (hw : Region.wanted o (yielded ops a.tmps) = false) (k : WQ P ops C Q rest (a.put o.dst undef)) : WQ P ops C Q (o :: rest) a :=
  ⟨by simp only [wpQuiet, hw]; exact k.out⟩
theorem stepV {v : Value} (hw : Region.wanted o (yielded ops a.tmps) = true) (h : ∀ W, C W → (execOp a.eval o).run P W = .ok (.value v) W) (k : WQ P ops C Q rest (a.put o.dst v)) : WQ P ops C Q (o :: rest) a :=
  ⟨by simp only [wpQuiet, hw, if_true]; exact ⟨v, fun W hW => by unfold Oper.quietAt; rw [h W hW]; exact ⟨rfl, rfl⟩, k.out⟩⟩
theorem stepC {v : Value} {f : FuncId} {args : Array Value} (hw : Region.wanted o (yielded ops a.tmps) = true) (h : ∀ W, C W → (execOp a.eval o).run P W = .ok (.enter f args) W)
    (hc : ∀ W, C W → Calls P f args W fun e W' => e = .returned v ∧ C W') (k : WQ P ops C Q rest (a.put o.dst v)) : WQ P ops C Q (o :: rest) a :=
  ⟨by simp only [wpQuiet, hw, if_true]; exact ⟨v, fun W hW => by unfold Oper.quietAt; rw [h W hW]; exact ⟨rfl, hc W hW⟩, k.out⟩⟩
end

theorem callB {P : Program} {f : FuncId} {args : Array Value} {w W : World} {v : Value} (hW : Bel w W) (h : Calls P f args W fun e W' => e = .returned v ∧ Below W.heap.size W W') : Calls P f args W fun e W' => e = .returned v ∧ Bel w W' :=
  h.mono fun _ _ ⟨he, hb⟩ => ⟨he, hW.next hb⟩
theorem callE {P : Program} {f : FuncId} {args : Array Value} {w W : World} {v : Value} (hW : Bel w W) (h : Calls P f args W fun e W' => e = .returned v ∧ W' = W) : Calls P f args W fun e W' => e = .returned v ∧ Bel w W' :=
  h.mono fun _ _ ⟨he, hb⟩ => ⟨he, by rw [hb]; exact hW⟩
theorem callF {P : Program} {f : FuncId} {args : Array Value} {w W : World} {v : Value} (hW : Bel w W) (h : Calls P f args W fun e W' => e = .returned v ∧ W = W') : Calls P f args W fun e W' => e = .returned v ∧ Bel w W' :=
  h.mono fun _ _ ⟨he, hb⟩ => ⟨he, by rw [← hb]; exact hW⟩

theorem wp_region_below {P : Program} {id : Nat} {K : Exit → Act → World → Prop} {a : Act} {w : World} {l : List Oper} (hm : P.follows .mixedOrders = true) (hB : Region.lexB .any l.toArray = true)
    (h : WQ P l.toArray (Bel w) (fun a' => ∀ w', Bel w w' → K .normal a' w') l a) : (Code.region id l.toArray true).wp P K a w :=
  wp_region_quiet (C := Bel w) hm hB ⟨rfl, rfl, rfl, Nat.le_refl _, fun _ _ => rfl⟩ (by simpa using h.out)

end Go.Proofs.Ytkeajfgcjmhmiaa

namespace Go.Proofs.Ytkeajfgcjmhmiaa
open Go.RowKit

def badPt (p : Pt) : Bool := !coordQ p.1.1 p.1.2 || !coordQ p.2.1 p.2.2

set_option maxHeartbeats 400000 in
theorem isMapF (a b c d : Int) (w : World) :
    Calls Try.prog 41 #[.agg #[.int .i64 a, .int .i64 b, .int .i64 c, .int .i64 d]] w fun e w' => e = .returned (.bool (badPt ((a, b), c, d))) ∧ Below w.heap.size w w' := by
  rcases h : coordQ a b with _ | _
  · have H := Lib.hid h
    have HX := Lib.hid (show badPt ((a, b), c, d) = true by simp [badPt, h])
    clear h
    go_enter Try.func41, Try.ntmps41
    go_wp2_with fail
    refine (isCoord_any a b _).mono ?_
    rintro e w1 ⟨he, hb⟩
    rw [H.out] at he
    subst he
    have hB : Below w.heap.size w w1 := nextB (by go_grown) (by go_size) hb
    clear hb
    go_wp2_with fail
    go_ret
    exact ⟨ret_bool HX.out.symm, hB⟩
  · have H := Lib.hid h
    have HX := Lib.hid (show badPt ((a, b), c, d) = !coordQ c d by simp [badPt, h])
    clear h
    go_enter Try.func41, Try.ntmps41
    go_wp2_with fail
    refine (isCoord_any a b _).mono ?_
    rintro e w1 ⟨he, hb⟩
    rw [H.out] at he
    subst he
    have c2 : w1.cell? ⟨w.heap.size, 2, none⟩ = some (.int .i64 c) := cellB hb (by simp [go_sem])
    have c3 : w1.cell? ⟨w.heap.size, 3, none⟩ = some (.int .i64 d) := cellB hb (by simp [go_sem])
    have hB : Below w.heap.size w w1 := nextB (by go_grown) (by go_size) hb
    clear hb
    go_wp2_with fail
    refine (isCoord_any c d _).mono ?_
    rintro e w2 ⟨rfl, hb⟩
    replace hB := nextW hB hb
    generalize coordQ c d = x at *
    clear hb c2 c3
    go_wp2_with fail
    go_ret
    exact ⟨ret_bool HX.out.symm, hB⟩

theorem isMapF_says (ps : List Pt) (w : World) : Says 41 #[] badPt ps w := fun W p _ _ => isMapF p.1.1 p.1.2 p.2.1 p.2.2 W

theorem any_bad (ps : List Pt) : ps.any badPt = !ps.all (fun p => coordQ p.1.1 p.1.2 && coordQ p.2.1 p.2.2) := by
  induction ps with
  | nil => rfl
  | cons p ps ih => rw [List.any_cons, List.all_cons, ih, badPt]; simp [Bool.not_and]

theorem okMap_noLen {ps : List Pt} (h : ¬ (2 ≤ ps.length ∧ ps.length ≤ 12)) : okMap ps = false := by
  simp only [okMap, h, decide_false, Bool.false_and]
theorem okMap_noCoord {ps : List Pt} (h : ps.any badPt = true) : okMap ps = false := by
  rw [any_bad] at h
  simp only [Bool.not_eq_true'] at h
  simp only [okMap, h, Bool.and_false, Bool.false_and]
theorem okMap_rest {ps : List Pt} (h1 : 2 ≤ ps.length ∧ ps.length ≤ 12) (h2 : ps.any badPt = false) {x y : Pt} (hx : ps[0]? = some x) (hy : ps[ps.length - 1]? = some y) :
    okMap ps = (decide (x.1 = (0, 1)) && decide (y.1 = (1, 1)) && risingB (ps.map (·.1))) := by
  rw [any_bad] at h2
  simp only [Bool.not_eq_false'] at h2
  have e1 : ps.head? = some x := by rw [List.head?_eq_getElem?]; exact hx
  have e2 : ps.getLast? = some y := by rw [List.getLast?_eq_getElem?]; exact hy
  simp only [okMap, h1, h2, e1, e2, Option.map_some, Option.some.injEq, and_self, decide_true, Bool.true_and]

theorem isMap_len (ps : List Pt) (v : Value) (w : World) (hv : RdP w v ps) (hn : ps.length ≤ 9000000) (h : ¬ (2 ≤ ps.length ∧ ps.length ≤ 12)) :
    Calls Try.prog 19 #[v] w fun e w' => e = .returned (.bool false) ∧ Below w.heap.size w w' := by
  obtain ⟨A, c, rfl, hl, hm, hcell⟩ := hv
  clear hcell
  go_enter Try.func19, Try.ntmps19
  go_wp2_with fail
  refine (within_no (ps.length : Int) 2 12 (by omega) _).mono ?_
  rintro e w1 ⟨rfl, rfl⟩
  go_wp2_with fail
  go_ret
  exact ⟨rfl, Below.refl _ _⟩

theorem isMap_coord (ps : List Pt) (v : Value) (w : World) (hv : RdP w v ps) (hn : 2 ≤ ps.length ∧ ps.length ≤ 12) (h : ps.any badPt = true) :
    Calls Try.prog 19 #[v] w fun e w' => e = .returned (.bool false) ∧ Below w.heap.size w w' := by
  have HV := Lib.hid hv
  obtain ⟨A, c, rfl, hl, hm, hcell⟩ := hv
  have H := Lib.hid h
  clear hcell h
  go_enter Try.func19, Try.ntmps19
  go_wp2_with fail
  refine (within_yes (ps.length : Int) 2 12 (by omega) (by omega) _).mono ?_
  rintro e w1 ⟨rfl, rfl⟩
  go_wp2_with fail
  refine (containsIsMap badPt ps _ _ HV.out (isMapF_says _ _)).mono ?_
  rintro e w1 ⟨he, hb⟩
  rw [H.out] at he
  subst he
  go_wp2_with fail
  go_ret
  exact ⟨rfl, hb⟩

theorem badPt_sm {ps : List Pt} (h : ps.any badPt = false) : AllSm (ps.map (·.1)) := by
  rw [any_bad] at h
  simp only [Bool.not_eq_false', List.all_eq_true, Bool.and_eq_true] at h
  intro q hq
  obtain ⟨p, hp, rfl⟩ := List.mem_map.1 hq
  exact Sm.of_ok (unitQ_ok (coordQ_unit (h p hp).1))

set_option maxHeartbeats 1600000 in
theorem isMap_x1 (ps : List Pt) (g o c : Nat) (w : World) (hv : RdP w (.slice (some ⟨g, o, none⟩) ps.length c) ps) (hn : 2 ≤ ps.length ∧ ps.length ≤ 12) (h : ps.any badPt = false) (x1 x2 y1 y2 : Int) (hx : ((x1 : Int) == 0) = false)
    (e0 : w.cell? ⟨g, o, none⟩ = some (.int .i64 x1)) (e1 : w.cell? ⟨g, o + 1, none⟩ = some (.int .i64 x2)) (e2 : w.cell? ⟨g, o + (ps.length - 1) * 4, none⟩ = some (.int .i64 y1)) (e3 : w.cell? ⟨g, o + (ps.length - 1) * 4 + 1, none⟩ = some (.int .i64 y2)) :
    Calls Try.prog 19 #[.slice (some ⟨g, o, none⟩) ps.length c] w fun e w' => e = .returned (.bool false) ∧ Below w.heap.size w w' := by
  have HV := Lib.hid hv
  have H := Lib.hid h
  have HS := Lib.hid (badPt_sm h)
  clear hv h
  go_enter Try.func19, Try.ntmps19
  go_wp2_with fail
  refine (within_yes (ps.length : Int) 2 12 (by omega) (by omega) _).mono ?_
  rintro e w1 ⟨rfl, rfl⟩
  go_wp2_with fail
  refine (containsIsMap badPt ps _ _ HV.out (isMapF_says _ _)).mono ?_
  rintro e w1 ⟨he, hb⟩
  rw [H.out] at he
  subst he
  replace e0 := cellB hb e0
  replace e1 := cellB hb e1
  replace e2 := cellB hb e2
  replace e3 := cellB hb e3
  have b0 : 0 < ps.length := by omega
  have b1 : ps.length - 1 < ps.length := by omega
  have b2 : (0 : Int) ≤ (ps.length : Int) - 1 := by omega
  have b3 : (ps.length : Int) - 1 < (ps.length : Int) := by omega
  have b4 : (1 : Int) ≤ (ps.length : Int) := by omega
  have v1 : IntKind.i64.wrap ((ps.length : Int) - 1) = (ps.length : Int) - 1 := IntWalk.i64_in _ (by omega)
  have t1 : ((ps.length : Int) - 1).toNat = ps.length - 1 := by omega
  go_wp2_with fail
  refine wp_region_below (by kernel_rfl) (by kernel_rfl) ?_
  iterate 23 (first
    | (refine stepS rfl ?_; simp only [Act.put, List.setIfInBounds_toArray, List.set_cons_zero, List.set_cons_succ])
    | (refine stepV (v := ?_) rfl (fun W hW => ?_) ?_
       rotate_left
       focus
         have qc0 := cellB hW.out e0
         have qc1 := cellB hW.out e1
         have qc2 := cellB hW.out e2
         have qc3 := cellB hW.out e3
         go_simp
         try with_reducible rfl
         done
       simp only [Act.put, List.setIfInBounds_toArray, List.set_cons_zero, List.set_cons_succ])
    | (refine stepC rfl (fun W hW => ?_) (fun W hW => callB hW (zero_any _)) ?_
       focus
         go_simp
         try with_reducible rfl
         done
       simp only [Act.put, List.setIfInBounds_toArray, List.set_cons_zero, List.set_cons_succ]))
  refine stepN ?_
  intro w2 hw2
  have hB := nextW hb hw2.out
  clear v1 t1
  go_wp2_with fail
  go_ret
  exact ⟨rfl, hB⟩

set_option maxHeartbeats 1600000 in
theorem isMap_x2 (ps : List Pt) (g o c : Nat) (w : World) (hv : RdP w (.slice (some ⟨g, o, none⟩) ps.length c) ps) (hn : 2 ≤ ps.length ∧ ps.length ≤ 12) (h : ps.any badPt = false) (x1 x2 y1 y2 : Int) (hx : ((x1 : Int) == 0) = true) (hx2 : ((x2 : Int) == 1) = false)
    (e0 : w.cell? ⟨g, o, none⟩ = some (.int .i64 x1)) (e1 : w.cell? ⟨g, o + 1, none⟩ = some (.int .i64 x2)) (e2 : w.cell? ⟨g, o + (ps.length - 1) * 4, none⟩ = some (.int .i64 y1)) (e3 : w.cell? ⟨g, o + (ps.length - 1) * 4 + 1, none⟩ = some (.int .i64 y2)) :
    Calls Try.prog 19 #[.slice (some ⟨g, o, none⟩) ps.length c] w fun e w' => e = .returned (.bool false) ∧ Below w.heap.size w w' := by
  have HV := Lib.hid hv
  have H := Lib.hid h
  have HS := Lib.hid (badPt_sm h)
  clear hv h
  go_enter Try.func19, Try.ntmps19
  go_wp2_with fail
  refine (within_yes (ps.length : Int) 2 12 (by omega) (by omega) _).mono ?_
  rintro e w1 ⟨rfl, rfl⟩
  go_wp2_with fail
  refine (containsIsMap badPt ps _ _ HV.out (isMapF_says _ _)).mono ?_
  rintro e w1 ⟨he, hb⟩
  rw [H.out] at he
  subst he
  replace e0 := cellB hb e0
  replace e1 := cellB hb e1
  replace e2 := cellB hb e2
  replace e3 := cellB hb e3
  have b0 : 0 < ps.length := by omega
  have b1 : ps.length - 1 < ps.length := by omega
  have b2 : (0 : Int) ≤ (ps.length : Int) - 1 := by omega
  have b3 : (ps.length : Int) - 1 < (ps.length : Int) := by omega
  have b4 : (1 : Int) ≤ (ps.length : Int) := by omega
  have v1 : IntKind.i64.wrap ((ps.length : Int) - 1) = (ps.length : Int) - 1 := IntWalk.i64_in _ (by omega)
  have t1 : ((ps.length : Int) - 1).toNat = ps.length - 1 := by omega
  go_wp2_with fail
  refine wp_region_below (by kernel_rfl) (by kernel_rfl) ?_
  iterate 23 (first
    | (refine stepS rfl ?_; simp only [Act.put, List.setIfInBounds_toArray, List.set_cons_zero, List.set_cons_succ])
    | (refine stepV (v := ?_) rfl (fun W hW => ?_) ?_
       rotate_left
       focus
         have qc0 := cellB hW.out e0
         have qc1 := cellB hW.out e1
         have qc2 := cellB hW.out e2
         have qc3 := cellB hW.out e3
         go_simp
         try with_reducible rfl
         done
       simp only [Act.put, List.setIfInBounds_toArray, List.set_cons_zero, List.set_cons_succ])
    | (refine stepC rfl (fun W hW => ?_) (fun W hW => callB hW (zero_any _)) ?_
       focus
         go_simp
         try with_reducible rfl
         done
       simp only [Act.put, List.setIfInBounds_toArray, List.set_cons_zero, List.set_cons_succ]))
  refine stepN ?_
  intro w2 hw2
  have hB := nextW hb hw2.out
  clear v1 t1
  go_wp2_with fail
  go_ret
  exact ⟨rfl, hB⟩

set_option maxHeartbeats 1600000 in
theorem isMap_y1 (ps : List Pt) (g o c : Nat) (w : World) (hv : RdP w (.slice (some ⟨g, o, none⟩) ps.length c) ps) (hn : 2 ≤ ps.length ∧ ps.length ≤ 12) (h : ps.any badPt = false) (x1 x2 y1 y2 : Int) (hx : ((x1 : Int) == 0) = true) (hx2 : ((x2 : Int) == 1) = true) (hy : ((y1 : Int) == 1) = false)
    (e0 : w.cell? ⟨g, o, none⟩ = some (.int .i64 x1)) (e1 : w.cell? ⟨g, o + 1, none⟩ = some (.int .i64 x2)) (e2 : w.cell? ⟨g, o + (ps.length - 1) * 4, none⟩ = some (.int .i64 y1)) (e3 : w.cell? ⟨g, o + (ps.length - 1) * 4 + 1, none⟩ = some (.int .i64 y2)) :
    Calls Try.prog 19 #[.slice (some ⟨g, o, none⟩) ps.length c] w fun e w' => e = .returned (.bool false) ∧ Below w.heap.size w w' := by
  have HV := Lib.hid hv
  have H := Lib.hid h
  have HS := Lib.hid (badPt_sm h)
  clear hv h
  go_enter Try.func19, Try.ntmps19
  go_wp2_with fail
  refine (within_yes (ps.length : Int) 2 12 (by omega) (by omega) _).mono ?_
  rintro e w1 ⟨rfl, rfl⟩
  go_wp2_with fail
  refine (containsIsMap badPt ps _ _ HV.out (isMapF_says _ _)).mono ?_
  rintro e w1 ⟨he, hb⟩
  rw [H.out] at he
  subst he
  replace e0 := cellB hb e0
  replace e1 := cellB hb e1
  replace e2 := cellB hb e2
  replace e3 := cellB hb e3
  have b0 : 0 < ps.length := by omega
  have b1 : ps.length - 1 < ps.length := by omega
  have b2 : (0 : Int) ≤ (ps.length : Int) - 1 := by omega
  have b3 : (ps.length : Int) - 1 < (ps.length : Int) := by omega
  have b4 : (1 : Int) ≤ (ps.length : Int) := by omega
  have v1 : IntKind.i64.wrap ((ps.length : Int) - 1) = (ps.length : Int) - 1 := IntWalk.i64_in _ (by omega)
  have t1 : ((ps.length : Int) - 1).toNat = ps.length - 1 := by omega
  go_wp2_with fail
  refine wp_region_below (by kernel_rfl) (by kernel_rfl) ?_
  iterate 23 (first
    | (refine stepS rfl ?_; simp only [Act.put, List.setIfInBounds_toArray, List.set_cons_zero, List.set_cons_succ])
    | (refine stepV (v := ?_) rfl (fun W hW => ?_) ?_
       rotate_left
       focus
         have qc0 := cellB hW.out e0
         have qc1 := cellB hW.out e1
         have qc2 := cellB hW.out e2
         have qc3 := cellB hW.out e3
         go_simp
         try with_reducible rfl
         done
       simp only [Act.put, List.setIfInBounds_toArray, List.set_cons_zero, List.set_cons_succ])
    | (refine stepC rfl (fun W hW => ?_) (fun W hW => callB hW (zero_any _)) ?_
       focus
         go_simp
         try with_reducible rfl
         done
       simp only [Act.put, List.setIfInBounds_toArray, List.set_cons_zero, List.set_cons_succ])
    | (refine stepC rfl (fun W hW => ?_) (fun W hW => callB hW (oneRat_any _)) ?_
       focus
         go_simp
         try with_reducible rfl
         done
       simp only [Act.put, List.setIfInBounds_toArray, List.set_cons_zero, List.set_cons_succ]))
  refine stepN ?_
  intro w2 hw2
  have hB := nextW hb hw2.out
  clear v1 t1
  go_wp2_with fail
  go_ret
  exact ⟨rfl, hB⟩

set_option maxHeartbeats 1600000 in
theorem isMap_y2 (ps : List Pt) (g o c : Nat) (w : World) (hv : RdP w (.slice (some ⟨g, o, none⟩) ps.length c) ps) (hn : 2 ≤ ps.length ∧ ps.length ≤ 12) (h : ps.any badPt = false) (x1 x2 y1 y2 : Int) (hx : ((x1 : Int) == 0) = true) (hx2 : ((x2 : Int) == 1) = true) (hy : ((y1 : Int) == 1) = true) (hy2 : ((y2 : Int) == 1) = false)
    (e0 : w.cell? ⟨g, o, none⟩ = some (.int .i64 x1)) (e1 : w.cell? ⟨g, o + 1, none⟩ = some (.int .i64 x2)) (e2 : w.cell? ⟨g, o + (ps.length - 1) * 4, none⟩ = some (.int .i64 y1)) (e3 : w.cell? ⟨g, o + (ps.length - 1) * 4 + 1, none⟩ = some (.int .i64 y2)) :
    Calls Try.prog 19 #[.slice (some ⟨g, o, none⟩) ps.length c] w fun e w' => e = .returned (.bool false) ∧ Below w.heap.size w w' := by
  have HV := Lib.hid hv
  have H := Lib.hid h
  have HS := Lib.hid (badPt_sm h)
  clear hv h
  go_enter Try.func19, Try.ntmps19
  go_wp2_with fail
  refine (within_yes (ps.length : Int) 2 12 (by omega) (by omega) _).mono ?_
  rintro e w1 ⟨rfl, rfl⟩
  go_wp2_with fail
  refine (containsIsMap badPt ps _ _ HV.out (isMapF_says _ _)).mono ?_
  rintro e w1 ⟨he, hb⟩
  rw [H.out] at he
  subst he
  replace e0 := cellB hb e0
  replace e1 := cellB hb e1
  replace e2 := cellB hb e2
  replace e3 := cellB hb e3
  have b0 : 0 < ps.length := by omega
  have b1 : ps.length - 1 < ps.length := by omega
  have b2 : (0 : Int) ≤ (ps.length : Int) - 1 := by omega
  have b3 : (ps.length : Int) - 1 < (ps.length : Int) := by omega
  have b4 : (1 : Int) ≤ (ps.length : Int) := by omega
  have v1 : IntKind.i64.wrap ((ps.length : Int) - 1) = (ps.length : Int) - 1 := IntWalk.i64_in _ (by omega)
  have t1 : ((ps.length : Int) - 1).toNat = ps.length - 1 := by omega
  go_wp2_with fail
  refine wp_region_below (by kernel_rfl) (by kernel_rfl) ?_
  iterate 23 (first
    | (refine stepS rfl ?_; simp only [Act.put, List.setIfInBounds_toArray, List.set_cons_zero, List.set_cons_succ])
    | (refine stepV (v := ?_) rfl (fun W hW => ?_) ?_
       rotate_left
       focus
         have qc0 := cellB hW.out e0
         have qc1 := cellB hW.out e1
         have qc2 := cellB hW.out e2
         have qc3 := cellB hW.out e3
         go_simp
         try with_reducible rfl
         done
       simp only [Act.put, List.setIfInBounds_toArray, List.set_cons_zero, List.set_cons_succ])
    | (refine stepC rfl (fun W hW => ?_) (fun W hW => callB hW (zero_any _)) ?_
       focus
         go_simp
         try with_reducible rfl
         done
       simp only [Act.put, List.setIfInBounds_toArray, List.set_cons_zero, List.set_cons_succ])
    | (refine stepC rfl (fun W hW => ?_) (fun W hW => callB hW (oneRat_any _)) ?_
       focus
         go_simp
         try with_reducible rfl
         done
       simp only [Act.put, List.setIfInBounds_toArray, List.set_cons_zero, List.set_cons_succ]))
  refine stepN ?_
  intro w2 hw2
  have hB := nextW hb hw2.out
  clear v1 t1
  go_wp2_with fail
  go_ret
  exact ⟨rfl, hB⟩

set_option maxHeartbeats 1600000 in
theorem isMap_yes (ps : List Pt) (g o c : Nat) (w : World) (hv : RdP w (.slice (some ⟨g, o, none⟩) ps.length c) ps) (hn : 2 ≤ ps.length ∧ ps.length ≤ 12) (h : ps.any badPt = false) (x1 x2 y1 y2 : Int) (hx : ((x1 : Int) == 0) = true) (hx2 : ((x2 : Int) == 1) = true) (hy : ((y1 : Int) == 1) = true) (hy2 : ((y2 : Int) == 1) = true) (rr : Bool) (hrr : risingB (ps.map (·.1)) = rr)
    (e0 : w.cell? ⟨g, o, none⟩ = some (.int .i64 x1)) (e1 : w.cell? ⟨g, o + 1, none⟩ = some (.int .i64 x2)) (e2 : w.cell? ⟨g, o + (ps.length - 1) * 4, none⟩ = some (.int .i64 y1)) (e3 : w.cell? ⟨g, o + (ps.length - 1) * 4 + 1, none⟩ = some (.int .i64 y2)) :
    Calls Try.prog 19 #[.slice (some ⟨g, o, none⟩) ps.length c] w fun e w' => e = .returned (.bool rr) ∧ Below w.heap.size w w' := by
  have HV := Lib.hid hv
  have H := Lib.hid h
  have HS := Lib.hid (badPt_sm h)
  clear hv h
  have HRR := Lib.hid hrr
  clear hrr
  go_enter Try.func19, Try.ntmps19
  go_wp2_with fail
  refine (within_yes (ps.length : Int) 2 12 (by omega) (by omega) _).mono ?_
  rintro e w1 ⟨rfl, rfl⟩
  go_wp2_with fail
  refine (containsIsMap badPt ps _ _ HV.out (isMapF_says _ _)).mono ?_
  rintro e w1 ⟨he, hb⟩
  rw [H.out] at he
  subst he
  replace e0 := cellB hb e0
  replace e1 := cellB hb e1
  replace e2 := cellB hb e2
  replace e3 := cellB hb e3
  have b0 : 0 < ps.length := by omega
  have b1 : ps.length - 1 < ps.length := by omega
  have b2 : (0 : Int) ≤ (ps.length : Int) - 1 := by omega
  have b3 : (ps.length : Int) - 1 < (ps.length : Int) := by omega
  have b4 : (1 : Int) ≤ (ps.length : Int) := by omega
  have v1 : IntKind.i64.wrap ((ps.length : Int) - 1) = (ps.length : Int) - 1 := IntWalk.i64_in _ (by omega)
  have t1 : ((ps.length : Int) - 1).toNat = ps.length - 1 := by omega
  go_wp2_with fail
  go_region_held3 (fun w' => w'.cell? ⟨g, o, none⟩ = some (.int .i64 x1) ∧ w'.cell? ⟨g, o + 1, none⟩ = some (.int .i64 x2) ∧ w'.cell? ⟨g, o + (ps.length - 1) * 4, none⟩ = some (.int .i64 y1) ∧ w'.cell? ⟨g, o + (ps.length - 1) * 4 + 1, none⟩ = some (.int .i64 y2))
    ((first | exact ⟨e0, e1, e2, e3⟩ | exact ⟨cellB hb5 e0, cellB hb5 e1, cellB hb5 e2, cellB hb5 e3⟩ | exact ⟨cellB hb4 e0, cellB hb4 e1, cellB hb4 e2, cellB hb4 e3⟩ | exact ⟨cellB hb3 e0, cellB hb3 e1, cellB hb3 e2, cellB hb3 e3⟩ | exact ⟨cellB hb2 e0, cellB hb2 e1, cellB hb2 e2, cellB hb2 e3⟩))
    ((first
      | (go_at_call 43; refine (zero_any _).mono ?_; rintro e w2 ⟨rfl, hb2'⟩; have hb2 := nextB (B := w1.heap.size) (w := w1) ((Below.refl _ _).drew) (Nat.le_refl _) hb2')
      | (go_at_call 44; refine (oneRat_any _).mono ?_; rintro e w3 ⟨rfl, hb3'⟩; have hb3 := nextW hb2 hb3')
      | (go_at_call 46; refine (xsOf_any ps _ _ (HV.out.keep (nextW hb hb3)) (by omega)).mono ?_; rintro e w4 ⟨r, rfl, hr, hb4'⟩; have HR := Lib.hid hr; have hb4 := nextW hb3 hb4'; clear hr)
      | (go_at_call 45; refine (isRising_any (ps.map (·.1)) r _ HR.out.read HS.out).mono ?_; rintro e w5 ⟨he5, hb5'⟩; rw [HRR.out] at he5; subst he5; have hb5 := nextW hb4 hb5')))
  have hB := nextW hb hb5
  clear v1 t1
  go_wp2_with fail
  go_ret
  exact ⟨rfl, hB⟩

theorem isMap_is (ps : List Pt) (v : Value) (t : Bool) (w : World) (hv : RdP w v ps) (hn : ps.length ≤ 1048576) (ht : okMap ps = t) :
    Calls Try.prog 19 #[v] w fun e w' => e = .returned (.bool t) ∧ Below w.heap.size w w' := by
  subst ht
  by_cases h1 : 2 ≤ ps.length ∧ ps.length ≤ 12
  · rcases h2 : ps.any badPt with _ | _
    · have k0 : ps[0]? = some (ps[0]'(by omega)) := List.getElem?_eq_getElem (by omega)
      have k1 : ps[ps.length - 1]? = some (ps[ps.length - 1]'(by omega)) := List.getElem?_eq_getElem (by omega)
      rw [okMap_rest h1 h2 k0 k1]
      generalize ps[0]'(by omega) = x at *
      generalize ps[ps.length - 1]'(by omega) = y at *
      obtain ⟨⟨x1, x2⟩, x3⟩ := x
      obtain ⟨⟨y1, y2⟩, y3⟩ := y
      have hv0 := hv
      obtain ⟨A, c, rfl, hl, hm, hcell⟩ := hv
      obtain ⟨g, o, rfl, hg, hc⟩ := hcell (by intro e; rw [e] at h1; simp at h1)
      obtain ⟨e0, e1, _, _⟩ := hc 0 _ k0
      obtain ⟨e2, e3, _, _⟩ := hc (ps.length - 1) _ k1
      simp only [Nat.zero_mul, Nat.add_zero] at e0 e1
      rcases a1 : ((x1 : Int) == 0) with _ | _
      · have : decide (((x1, x2) : Q) = (0, 1)) = false := by simp at a1 ⊢; intro h; exact absurd h a1
        simp only [this, Bool.false_and]
        exact isMap_x1 ps g o c w hv0 h1 h2 x1 x2 y1 y2 a1 e0 e1 e2 e3
      · rcases a2 : ((x2 : Int) == 1) with _ | _
        · have : decide (((x1, x2) : Q) = (0, 1)) = false := by simp at a2 ⊢; intro _ h; exact absurd h a2
          simp only [this, Bool.false_and]
          exact isMap_x2 ps g o c w hv0 h1 h2 x1 x2 y1 y2 a1 a2 e0 e1 e2 e3
        · have f1 : decide (((x1, x2) : Q) = (0, 1)) = true := by simp at a1 a2 ⊢; exact ⟨a1, a2⟩
          rcases a3 : ((y1 : Int) == 1) with _ | _
          · have : decide (((y1, y2) : Q) = (1, 1)) = false := by simp at a3 ⊢; intro h; exact absurd h a3
            simp only [this, f1, Bool.false_and, Bool.and_false]
            exact isMap_y1 ps g o c w hv0 h1 h2 x1 x2 y1 y2 a1 a2 a3 e0 e1 e2 e3
          · rcases a4 : ((y2 : Int) == 1) with _ | _
            · have : decide (((y1, y2) : Q) = (1, 1)) = false := by simp at a4 ⊢; intro _ h; exact absurd h a4
              simp only [this, f1, Bool.false_and, Bool.and_false]
              exact isMap_y2 ps g o c w hv0 h1 h2 x1 x2 y1 y2 a1 a2 a3 a4 e0 e1 e2 e3
            · have f2 : decide (((y1, y2) : Q) = (1, 1)) = true := by simp at a3 a4 ⊢; exact ⟨a3, a4⟩
              simp only [f1, f2, Bool.true_and]
              exact isMap_yes ps g o c w hv0 h1 h2 x1 x2 y1 y2 a1 a2 a3 a4 _ rfl e0 e1 e2 e3
    · rw [okMap_noCoord h2]
      exact isMap_coord ps v w hv h1 h2
  · rw [okMap_noLen h1]
    exact isMap_len ps v w hv (by omega) h1

end Go.Proofs.Ytkeajfgcjmhmiaa

namespace Go.Proofs.Ytkeajfgcjmhmiaa
open Go.RowKit

theorem imCoord_is (n d : Int) (t : Bool) (h : coordQ n d = t) (w : World) :
    Calls Try.prog 49 #[.agg #[.int .i64 n, .int .i64 d]] w fun e w' => e = .returned (.bool t) ∧ Below w.heap.size w w' := by
  rw [← h]; exact imCoord_any n d w
theorem raCmp_is (n1 d1 n2 d2 v : Int) (s1 : Sm n1 ∧ Sm d1) (s2 : Sm n2 ∧ Sm d2) (h : cmpQ n1 d1 n2 d2 = v) (w : World) :
    Calls Try.prog 29 #[.agg #[.int .i64 n1, .int .i64 d1], .agg #[.int .i64 n2, .int .i64 d2]] w fun e w' => e = .returned (.int .i64 v) ∧ Below w.heap.size w w' := by
  rw [← h]; exact raCmp_any n1 d1 n2 d2 s1.1 s1.2 s2.1 s2.2 w

theorem coord_sm {n d : Int} (h : coordQ n d = true) : Sm n ∧ Sm d := Sm.of_ok (unitQ_ok (coordQ_unit h))
theorem sm01 : Sm 0 ∧ Sm 1 := ⟨⟨by omega, by omega⟩, ⟨by omega, by omega⟩⟩
theorem sm11 : Sm 1 ∧ Sm 1 := ⟨⟨by omega, by omega⟩, ⟨by omega, by omega⟩⟩

/-- The first k points are coordinates and rise. -/
def GoodTo (ps : List Pt) (k : Nat) : Prop := (∀ i p, i < k → ps[i]? = some p → badPt p = false) ∧ UpTo (ps.map (·.1)) k
theorem badPt_of {a b c d : Int} (h1 : coordQ a b = true) (h2 : coordQ c d = true) : badPt ((a, b), c, d) = false := by simp [badPt, h1, h2]
theorem GoodTo.first {ps : List Pt} {p : Pt} (hp : ps[0]? = some p) (hb : badPt p = false) : GoodTo ps 1 := by
  refine ⟨fun i q hi hq => ?_, UpTo.one _⟩
  obtain rfl : i = 0 := by omega
  rw [hp] at hq; cases hq; exact hb
theorem GoodTo.more {ps : List Pt} {k : Nat} {x y : Pt} (h : GoodTo ps (k + 1)) (hx : ps[k]? = some x) (hy : ps[k + 1]? = some y) (hb : badPt y = false) (hl : lessQ x.1.1 x.1.2 y.1.1 y.1.2 = true) : GoodTo ps (k + 1 + 1) := by
  refine ⟨fun i q hi hq => ?_, UpTo.more h.2 (by simp [hx]) (by simp [hy]) hl⟩
  by_cases e : i = k + 1
  · subst e; rw [hy] at hq; cases hq; exact hb
  · exact h.1 i q (by omega) hq
theorem okMap_bad {ps : List Pt} {k : Nat} {p : Pt} (hp : ps[k]? = some p) (hb : badPt p = true) : okMap ps = false :=
  okMap_noCoord (List.any_eq_true.2 ⟨p, List.mem_of_getElem? hp, hb⟩)
theorem okMap_fall {ps : List Pt} {k : Nat} {x y : Pt} (hx : ps[k]? = some x) (hy : ps[k + 1]? = some y) (hl : lessQ x.1.1 x.1.2 y.1.1 y.1.2 = false) : okMap ps = false := by
  have : risingB (ps.map (·.1)) = false := UpTo.fails (x := x.1) (y := y.1) (k := k) (by simp [hx]) (by simp [hy]) hl
  simp only [okMap, this, Bool.and_false]
theorem GoodTo.none_bad {ps : List Pt} (h : GoodTo ps ps.length) : ps.any badPt = false := by
  rw [List.any_eq_false]
  intro p hp
  obtain ⟨i, hi, rfl⟩ := List.getElem_of_mem hp
  rw [h.1 i _ hi (List.getElem?_eq_getElem hi)]; decide
theorem cmp0 {n d : Int} (h : okQ n d = true) : decide (cmpQ n d 0 1 = 0) = decide (((n, d) : Q) = (0, 1)) := by
  have hb := okQ_bd h
  have hg := okQ_gcd h
  rw [decide_eq_decide]
  unfold cmpQ
  constructor
  · intro hc
    have hn : n = 0 := by split at hc <;> (try split at hc) <;> omega
    subst hn
    rw [Int.gcd_zero_left] at hg
    rw [show d = 1 from by omega]
  · intro hq; cases hq; decide
theorem cmp1 {n d : Int} (h : okQ n d = true) : decide (cmpQ n d 1 1 = 0) = decide (((n, d) : Q) = (1, 1)) := by
  have hb := okQ_bd h
  have hg := okQ_gcd h
  rw [decide_eq_decide]
  unfold cmpQ
  constructor
  · intro hc
    have hn : n = d := by split at hc <;> (try split at hc) <;> omega
    subst hn
    rw [Int.gcd_self] at hg
    rw [show n = 1 from by omega]
  · intro hq; cases hq; decide
theorem GoodTo.whole {ps : List Pt} (h : GoodTo ps ps.length) (hn : 2 ≤ ps.length ∧ ps.length ≤ 12) {x1 x2 y1 y2 : Int} {x y : Q} (hx : ps[0]? = some ((x1, x2), x)) (hy : ps[ps.length - 1]? = some ((y1, y2), y)) :
    okMap ps = (decide (cmpQ x1 x2 0 1 = 0) && decide (cmpQ y1 y2 1 1 = 0)) := by
  have hb := h.none_bad
  have h1 := h.1 0 _ (by omega) hx
  have h2 := h.1 _ _ (by omega) hy
  simp only [badPt, Bool.or_eq_false_iff, Bool.not_eq_false'] at h1 h2
  rw [cmp0 (unitQ_ok (coordQ_unit h1.1)), cmp1 (unitQ_ok (coordQ_unit h2.1)), okMap_rest hn hb hx hy, UpTo.whole h.2 (by simp), Bool.and_true]

def RelG (ps : List Pt) (w : World) (i : Value) (wr : World) : Prop := ∃ k : Nat, k ≤ ps.length ∧ i = .int .i64 k ∧ GoodTo ps k ∧ Below w.heap.size w wr

theorem imGood_len (ps : List Pt) (v : Value) (w : World) (hv : RdP w v ps) (hn : ps.length ≤ 9000000) (h : ¬ (2 ≤ ps.length ∧ ps.length ≤ 12)) :
    Calls Try.prog 21 #[v] w fun e w' => e = .returned (.bool false) ∧ Below w.heap.size w w' := by
  obtain ⟨A, c, rfl, hl, hm, hcell⟩ := hv
  clear hcell
  go_enter Try.func21, Try.ntmps21
  go_wp2_with fail
  refine (l1In_no (ps.length : Int) 2 12 (by omega) _).mono ?_
  rintro e w1 ⟨rfl, rfl⟩
  go_wp2_with fail
  go_ret
  exact ⟨rfl, Below.refl _ _⟩

set_option maxHeartbeats 3200000 in
theorem imGood_in (ps : List Pt) (g o c : Nat) (t : Bool) (w : World) (hg : g < w.heap.size) (_hl : ps.length ≤ c) (hn : 2 ≤ ps.length ∧ ps.length ≤ 12) (ht : okMap ps = t)
    (hc : ∀ i p, ps[i]? = some p → w.cell? ⟨g, o + i * 4, none⟩ = some (.int .i64 p.1.1) ∧ w.cell? ⟨g, o + i * 4 + 1, none⟩ = some (.int .i64 p.1.2) ∧ w.cell? ⟨g, o + i * 4 + 2, none⟩ = some (.int .i64 p.2.1) ∧ w.cell? ⟨g, o + i * 4 + 3, none⟩ = some (.int .i64 p.2.2)) :
    Calls Try.prog 21 #[.slice (some ⟨g, o, none⟩) ps.length c] w fun e w' => e = .returned (.bool t) ∧ Below w.heap.size w w' := by
  have HC := Lib.hid hc
  have HT := Lib.hid ht
  clear hc ht
  go_enter Try.func21, Try.ntmps21
  go_wp2_with fail
  refine (l1In_yes (ps.length : Int) 2 12 (by omega) (by omega) _).mono ?_
  rintro e w1 ⟨rfl, rfl⟩
  go_wp2_with fail
  go_loopw [11] (fun i wr => RelG ps w1 i wr) (fun i _ => ps.length - (intOf i).toNat)
  case atStart => exact ⟨0, Nat.zero_le _, rfl, ⟨fun i p hi => by omega, fun i x y hi => by omega⟩, Below.refl _ _⟩
  case round =>
    obtain ⟨k, hk, rfl, hgood, hb⟩ := hrel
    have HG := Lib.hid hgood
    clear hgood
    by_cases hlt : k < ps.length
    · have hqk := List.getElem?_eq_getElem hlt
      have hq := HC.out k _ hqk
      generalize ps[k] = q at *
      obtain ⟨⟨a1, a2⟩, a3, a4⟩ := q
      obtain ⟨c0, c1, c2, c3⟩ := hq
      rw [← hb.cell (p := ⟨g, _, none⟩) hg] at c0 c1 c2 c3
      have HQ := Lib.hid hqk
      clear hqk
      rcases hX : coordQ a1 a2 with _ | _
      · have HX := Lib.hid hX
        have HE := Lib.hid (show t = false by rw [← HT.out]; exact okMap_bad HQ.out (by simp [badPt, hX]))
        clear hX
        go_wp2_with fail
        have d0 : (wr.alloc (.cells #[.int .i64 a1, .int .i64 a2, .int .i64 a3, .int .i64 a4] 43)).cell? ⟨wr.heap.size, 0, none⟩ = some (.int .i64 a1) := by simp [go_sem]
        have d1 : (wr.alloc (.cells #[.int .i64 a1, .int .i64 a2, .int .i64 a3, .int .i64 a4] 43)).cell? ⟨wr.heap.size, 1, none⟩ = some (.int .i64 a2) := by simp [go_sem]
        refine wp_region_below (by kernel_rfl) (by kernel_rfl) ?_
        iterate 26 (first
          | (refine stepS rfl ?_; simp only [Act.put, List.setIfInBounds_toArray, List.set_cons_zero, List.set_cons_succ])
          | (refine stepV (v := ?_) rfl (fun W hW => ?_) ?_
             rotate_left
             focus
               have qc0 := cellB hW.out d0
               have qc1 := cellB hW.out d1
               go_simp
               try with_reducible rfl
               done
             simp only [Act.put, List.setIfInBounds_toArray, List.set_cons_zero, List.set_cons_succ])
          | (refine stepC rfl (fun W hW => ?_) (fun W hW => callB hW (imCoord_is a1 a2 false HX.out _)) ?_
             focus
               go_simp
               try with_reducible rfl
               done
             simp only [Act.put, List.setIfInBounds_toArray, List.set_cons_zero, List.set_cons_succ]))
        refine stepN ?_
        intro w2 hw2
        have hB : Below w1.heap.size w1 w2 := nextW (hb.alloc hb.size _) hw2.out
        clear hw2 c0 c1 c2 c3 d0 d1
        go_wp2_with fail
        go_ret
        exact ⟨ret_bool HE.out.symm, hB⟩
      · rcases hY : coordQ a3 a4 with _ | _
        · have HX := Lib.hid hX
          have HY := Lib.hid hY
          have HE := Lib.hid (show t = false by rw [← HT.out]; exact okMap_bad HQ.out (by simp [badPt, hY]))
          clear hX hY
          go_wp2_with fail
          have d0 : (wr.alloc (.cells #[.int .i64 a1, .int .i64 a2, .int .i64 a3, .int .i64 a4] 43)).cell? ⟨wr.heap.size, 0, none⟩ = some (.int .i64 a1) := by simp [go_sem]
          have d1 : (wr.alloc (.cells #[.int .i64 a1, .int .i64 a2, .int .i64 a3, .int .i64 a4] 43)).cell? ⟨wr.heap.size, 1, none⟩ = some (.int .i64 a2) := by simp [go_sem]
          have d2 : (wr.alloc (.cells #[.int .i64 a1, .int .i64 a2, .int .i64 a3, .int .i64 a4] 43)).cell? ⟨wr.heap.size, 2, none⟩ = some (.int .i64 a3) := by simp [go_sem]
          have d3 : (wr.alloc (.cells #[.int .i64 a1, .int .i64 a2, .int .i64 a3, .int .i64 a4] 43)).cell? ⟨wr.heap.size, 3, none⟩ = some (.int .i64 a4) := by simp [go_sem]
          refine wp_region_below (by kernel_rfl) (by kernel_rfl) ?_
          iterate 26 (first
            | (refine stepS rfl ?_; simp only [Act.put, List.setIfInBounds_toArray, List.set_cons_zero, List.set_cons_succ])
            | (refine stepV (v := ?_) rfl (fun W hW => ?_) ?_
               rotate_left
               focus
                 have qc0 := cellB hW.out d0
                 have qc1 := cellB hW.out d1
                 have qc2 := cellB hW.out d2
                 have qc3 := cellB hW.out d3
                 go_simp
                 try with_reducible rfl
                 done
               simp only [Act.put, List.setIfInBounds_toArray, List.set_cons_zero, List.set_cons_succ])
            | (refine stepC rfl (fun W hW => ?_) (fun W hW => callB hW (imCoord_is a1 a2 true HX.out _)) ?_
               focus
                 go_simp
                 try with_reducible rfl
                 done
               simp only [Act.put, List.setIfInBounds_toArray, List.set_cons_zero, List.set_cons_succ])
            | (refine stepC rfl (fun W hW => ?_) (fun W hW => callB hW (imCoord_is a3 a4 false HY.out _)) ?_
               focus
                 go_simp
                 try with_reducible rfl
                 done
               simp only [Act.put, List.setIfInBounds_toArray, List.set_cons_zero, List.set_cons_succ]))
          refine stepN ?_
          intro w2 hw2
          have hB : Below w1.heap.size w1 w2 := nextW (hb.alloc hb.size _) hw2.out
          clear hw2 c0 c1 c2 c3 d0 d1 d2 d3
          go_wp2_with fail
          go_ret
          exact ⟨ret_bool HE.out.symm, hB⟩
        · cases k with
          | zero =>
            have HX := Lib.hid hX
            have HY := Lib.hid hY
            have HN := Lib.hid (GoodTo.first HQ.out (badPt_of hX hY))
            clear hX hY
            simp only [Nat.zero_mul, Nat.add_zero] at c0 c1 c2 c3
            go_wp2_with fail
            have d0 : (wr.alloc (.cells #[.int .i64 a1, .int .i64 a2, .int .i64 a3, .int .i64 a4] 43)).cell? ⟨wr.heap.size, 0, none⟩ = some (.int .i64 a1) := by simp [go_sem]
            have d1 : (wr.alloc (.cells #[.int .i64 a1, .int .i64 a2, .int .i64 a3, .int .i64 a4] 43)).cell? ⟨wr.heap.size, 1, none⟩ = some (.int .i64 a2) := by simp [go_sem]
            have d2 : (wr.alloc (.cells #[.int .i64 a1, .int .i64 a2, .int .i64 a3, .int .i64 a4] 43)).cell? ⟨wr.heap.size, 2, none⟩ = some (.int .i64 a3) := by simp [go_sem]
            have d3 : (wr.alloc (.cells #[.int .i64 a1, .int .i64 a2, .int .i64 a3, .int .i64 a4] 43)).cell? ⟨wr.heap.size, 3, none⟩ = some (.int .i64 a4) := by simp [go_sem]
            refine wp_region_below (by kernel_rfl) (by kernel_rfl) ?_
            iterate 26 (first
              | (refine stepS rfl ?_; simp only [Act.put, List.setIfInBounds_toArray, List.set_cons_zero, List.set_cons_succ])
              | (refine stepV (v := ?_) rfl (fun W hW => ?_) ?_
                 rotate_left
                 focus
                   have qc0 := cellB hW.out d0
                   have qc1 := cellB hW.out d1
                   have qc2 := cellB hW.out d2
                   have qc3 := cellB hW.out d3
                   go_simp
                   try with_reducible rfl
                   done
                 simp only [Act.put, List.setIfInBounds_toArray, List.set_cons_zero, List.set_cons_succ])
              | (refine stepC rfl (fun W hW => ?_) (fun W hW => callB hW (imCoord_is a1 a2 true HX.out _)) ?_
                 focus
                   go_simp
                   try with_reducible rfl
                   done
                 simp only [Act.put, List.setIfInBounds_toArray, List.set_cons_zero, List.set_cons_succ])
              | (refine stepC rfl (fun W hW => ?_) (fun W hW => callB hW (imCoord_is a3 a4 true HY.out _)) ?_
                 focus
                   go_simp
                   try with_reducible rfl
                   done
                 simp only [Act.put, List.setIfInBounds_toArray, List.set_cons_zero, List.set_cons_succ]))
            refine stepN ?_
            intro w2 hw2
            have hB : Below w1.heap.size w1 w2 := nextW (hb.alloc hb.size _) hw2.out
            clear hw2 c0 c1 c2 c3 d0 d1 d2 d3
            go_wp2_with fail
            go_roundw
            case rel => exact ⟨1, by omega, by go_num, HN.out, hB⟩
            case measure => simp [intOf]; omega
          | succ j =>
            have hx := List.getElem?_eq_getElem (show j < ps.length by omega)
            have he := HC.out j _ hx
            have hbad := HG.out.1 j _ (by omega) hx
            generalize ps[j] = x at *
            obtain ⟨⟨x1, x2⟩, x3, x4⟩ := x
            obtain ⟨e0, e1, _, _⟩ := he
            rw [← hb.cell (p := ⟨g, _, none⟩) hg] at e0 e1
            have HSX := Lib.hid (show Sm x1 ∧ Sm x2 from coord_sm (by simp only [badPt, Bool.or_eq_false_iff, Bool.not_eq_false'] at hbad; exact hbad.1))
            have HSA := Lib.hid (coord_sm hX)
            have HX := Lib.hid hX
            have HY := Lib.hid hY
            have b0 : (0 : Int) < (j : Int) + 1 := by omega
            have b1 : (j : Int) < (ps.length : Int) := by omega
            have b2 : j < ps.length := by omega
            have v1 : IntKind.i64.wrap (j : Int) = (j : Int) := IntWalk.i64_in _ (by omega)
            have b4 : (1 : Int) ≤ (j : Int) + 1 := by omega
            rcases hle : lessQ x1 x2 a1 a2 with _ | _
            · have HE := Lib.hid (show t = false by rw [← HT.out]; exact okMap_fall hx HQ.out hle)
              obtain ⟨v, hv⟩ : ∃ v, cmpQ x1 x2 a1 a2 = v := ⟨_, rfl⟩
              have hd : decide ((0 : Int) ≤ v) = true := by
                rw [lessQ_cmp, hv] at hle; simp at hle ⊢; omega
              have hd2 : (0 : Int) ≤ v := by simpa using hd
              have HV := Lib.hid hv
              clear hX hY hx hbad hle hv
              go_wp2_with fail
              have d0 : (wr.alloc (.cells #[.int .i64 a1, .int .i64 a2, .int .i64 a3, .int .i64 a4] 43)).cell? ⟨wr.heap.size, 0, none⟩ = some (.int .i64 a1) := by simp [go_sem]
              have d1 : (wr.alloc (.cells #[.int .i64 a1, .int .i64 a2, .int .i64 a3, .int .i64 a4] 43)).cell? ⟨wr.heap.size, 1, none⟩ = some (.int .i64 a2) := by simp [go_sem]
              have d2 : (wr.alloc (.cells #[.int .i64 a1, .int .i64 a2, .int .i64 a3, .int .i64 a4] 43)).cell? ⟨wr.heap.size, 2, none⟩ = some (.int .i64 a3) := by simp [go_sem]
              have d3 : (wr.alloc (.cells #[.int .i64 a1, .int .i64 a2, .int .i64 a3, .int .i64 a4] 43)).cell? ⟨wr.heap.size, 3, none⟩ = some (.int .i64 a4) := by simp [go_sem]
              replace e0 := cellA (.cells #[.int .i64 a1, .int .i64 a2, .int .i64 a3, .int .i64 a4] 43) e0
              replace e1 := cellA (.cells #[.int .i64 a1, .int .i64 a2, .int .i64 a3, .int .i64 a4] 43) e1
              refine wp_region_below (by kernel_rfl) (by kernel_rfl) ?_
              iterate 26 (first
                | (refine stepS rfl ?_; simp only [Act.put, List.setIfInBounds_toArray, List.set_cons_zero, List.set_cons_succ])
                | (refine stepV (v := ?_) rfl (fun W hW => ?_) ?_
                   rotate_left
                   focus
                     have qc0 := cellB hW.out d0
                     have qc1 := cellB hW.out d1
                     have qc2 := cellB hW.out d2
                     have qc3 := cellB hW.out d3
                     have qc4 := cellB hW.out e0
                     have qc5 := cellB hW.out e1
                     go_simp
                     try with_reducible rfl
                     done
                   simp only [Act.put, List.setIfInBounds_toArray, List.set_cons_zero, List.set_cons_succ])
                | (refine stepC rfl (fun W hW => ?_) (fun W hW => callB hW (imCoord_is a1 a2 true HX.out _)) ?_
                   focus
                     go_simp
                     try with_reducible rfl
                     done
                   simp only [Act.put, List.setIfInBounds_toArray, List.set_cons_zero, List.set_cons_succ])
                | (refine stepC rfl (fun W hW => ?_) (fun W hW => callB hW (imCoord_is a3 a4 true HY.out _)) ?_
                   focus
                     go_simp
                     try with_reducible rfl
                     done
                   simp only [Act.put, List.setIfInBounds_toArray, List.set_cons_zero, List.set_cons_succ])
                | (refine stepC rfl (fun W hW => ?_) (fun W hW => callB hW (raCmp_is x1 x2 a1 a2 v HSX.out HSA.out HV.out _)) ?_
                   focus
                     go_simp
                     try with_reducible rfl
                     done
                   simp only [Act.put, List.setIfInBounds_toArray, List.set_cons_zero, List.set_cons_succ]))
              refine stepN ?_
              intro w2 hw2
              have hB : Below w1.heap.size w1 w2 := nextW (hb.alloc hb.size _) hw2.out
              clear hw2 c0 c1 c2 c3 d0 d1 d2 d3 e0 e1 hd
              go_wp2_with fail
              go_ret
              exact ⟨ret_bool HE.out.symm, hB⟩
            · have HN := Lib.hid (GoodTo.more HG.out hx HQ.out (badPt_of hX hY) hle)
              obtain ⟨v, hv⟩ : ∃ v, cmpQ x1 x2 a1 a2 = v := ⟨_, rfl⟩
              have hd : decide ((0 : Int) ≤ v) = false := by
                rw [lessQ_cmp, hv] at hle; simp at hle ⊢; omega
              have hd2 : v < (0 : Int) := by simpa using hd
              have HV := Lib.hid hv
              clear hX hY hx hbad hle hv
              go_wp2_with fail
              have d0 : (wr.alloc (.cells #[.int .i64 a1, .int .i64 a2, .int .i64 a3, .int .i64 a4] 43)).cell? ⟨wr.heap.size, 0, none⟩ = some (.int .i64 a1) := by simp [go_sem]
              have d1 : (wr.alloc (.cells #[.int .i64 a1, .int .i64 a2, .int .i64 a3, .int .i64 a4] 43)).cell? ⟨wr.heap.size, 1, none⟩ = some (.int .i64 a2) := by simp [go_sem]
              have d2 : (wr.alloc (.cells #[.int .i64 a1, .int .i64 a2, .int .i64 a3, .int .i64 a4] 43)).cell? ⟨wr.heap.size, 2, none⟩ = some (.int .i64 a3) := by simp [go_sem]
              have d3 : (wr.alloc (.cells #[.int .i64 a1, .int .i64 a2, .int .i64 a3, .int .i64 a4] 43)).cell? ⟨wr.heap.size, 3, none⟩ = some (.int .i64 a4) := by simp [go_sem]
              replace e0 := cellA (.cells #[.int .i64 a1, .int .i64 a2, .int .i64 a3, .int .i64 a4] 43) e0
              replace e1 := cellA (.cells #[.int .i64 a1, .int .i64 a2, .int .i64 a3, .int .i64 a4] 43) e1
              refine wp_region_below (by kernel_rfl) (by kernel_rfl) ?_
              iterate 26 (first
                | (refine stepS rfl ?_; simp only [Act.put, List.setIfInBounds_toArray, List.set_cons_zero, List.set_cons_succ])
                | (refine stepV (v := ?_) rfl (fun W hW => ?_) ?_
                   rotate_left
                   focus
                     have qc0 := cellB hW.out d0
                     have qc1 := cellB hW.out d1
                     have qc2 := cellB hW.out d2
                     have qc3 := cellB hW.out d3
                     have qc4 := cellB hW.out e0
                     have qc5 := cellB hW.out e1
                     go_simp
                     try with_reducible rfl
                     done
                   simp only [Act.put, List.setIfInBounds_toArray, List.set_cons_zero, List.set_cons_succ])
                | (refine stepC rfl (fun W hW => ?_) (fun W hW => callB hW (imCoord_is a1 a2 true HX.out _)) ?_
                   focus
                     go_simp
                     try with_reducible rfl
                     done
                   simp only [Act.put, List.setIfInBounds_toArray, List.set_cons_zero, List.set_cons_succ])
                | (refine stepC rfl (fun W hW => ?_) (fun W hW => callB hW (imCoord_is a3 a4 true HY.out _)) ?_
                   focus
                     go_simp
                     try with_reducible rfl
                     done
                   simp only [Act.put, List.setIfInBounds_toArray, List.set_cons_zero, List.set_cons_succ])
                | (refine stepC rfl (fun W hW => ?_) (fun W hW => callB hW (raCmp_is x1 x2 a1 a2 v HSX.out HSA.out HV.out _)) ?_
                   focus
                     go_simp
                     try with_reducible rfl
                     done
                   simp only [Act.put, List.setIfInBounds_toArray, List.set_cons_zero, List.set_cons_succ]))
              refine stepN ?_
              intro w2 hw2
              have hB : Below w1.heap.size w1 w2 := nextW (hb.alloc hb.size _) hw2.out
              clear hw2 c0 c1 c2 c3 d0 d1 d2 d3 e0 e1 hd
              go_wp2_with fail
              go_roundw
              case rel => exact ⟨j + 1 + 1, by omega, by go_num, HN.out, hB⟩
              case measure => simp [intOf]; omega
    · obtain rfl : k = ps.length := by omega
      have k0 : ps[0]? = some (ps[0]'(by omega)) := List.getElem?_eq_getElem (by omega)
      have k1 : ps[ps.length - 1]? = some (ps[ps.length - 1]'(by omega)) := List.getElem?_eq_getElem (by omega)
      have m0 := HG.out.1 0 _ (by omega) k0
      have m1 := HG.out.1 _ _ (by omega) k1
      generalize ps[0]'(by omega) = x at *
      generalize ps[ps.length - 1]'(by omega) = y at *
      obtain ⟨⟨x1, x2⟩, x3⟩ := x
      obtain ⟨⟨y1, y2⟩, y3⟩ := y
      obtain ⟨e0, e1, _, _⟩ := HC.out 0 _ k0
      obtain ⟨e2, e3, _, _⟩ := HC.out (ps.length - 1) _ k1
      rw [← hb.cell (p := ⟨g, _, none⟩) hg] at e0 e1 e2 e3
      simp only [Nat.zero_mul, Nat.add_zero] at e0 e1
      simp only [badPt, Bool.or_eq_false_iff, Bool.not_eq_false'] at m0 m1
      have HS0 := Lib.hid (coord_sm m0.1)
      have HS1 := Lib.hid (coord_sm m1.1)
      have HW := Lib.hid (show t = (decide (cmpQ x1 x2 0 1 = 0) && decide (cmpQ y1 y2 1 1 = 0)) by rw [← HT.out]; exact GoodTo.whole HG.out hn k0 k1)
      clear k0 k1 m0 m1
      obtain ⟨u, hu⟩ : ∃ u, cmpQ x1 x2 0 1 = u := ⟨_, rfl⟩
      obtain ⟨v, hv⟩ : ∃ v, cmpQ y1 y2 1 1 = v := ⟨_, rfl⟩
      have HU := Lib.hid hu
      have HV := Lib.hid hv
      clear hu hv
      have b0 : 0 < ps.length := by omega
      have b1 : ps.length - 1 < ps.length := by omega
      have b4 : (1 : Int) ≤ (ps.length : Int) := by omega
      have b2 : (0 : Int) ≤ (ps.length : Int) - 1 := by omega
      have b3 : (ps.length : Int) - 1 < (ps.length : Int) := by omega
      have v1 : IntKind.i64.wrap ((ps.length : Int) - 1) = (ps.length : Int) - 1 := IntWalk.i64_in _ (by omega)
      have t1 : ((ps.length : Int) - 1).toNat = ps.length - 1 := by omega
      rcases hu0 : ((u : Int) == 0) with _ | _
      · go_wp2_with fail
        refine wp_region_below (by kernel_rfl) (by kernel_rfl) ?_
        iterate 20 (first
          | (refine stepS rfl ?_; simp only [Act.put, List.setIfInBounds_toArray, List.set_cons_zero, List.set_cons_succ])
          | (refine stepV (v := ?_) rfl (fun W hW => ?_) ?_
             rotate_left
             focus
               have qc0 := cellB hW.out e0
               have qc1 := cellB hW.out e1
               have qc2 := cellB hW.out e2
               have qc3 := cellB hW.out e3
               go_simp
               try with_reducible rfl
               done
             simp only [Act.put, List.setIfInBounds_toArray, List.set_cons_zero, List.set_cons_succ])
          | (refine stepC rfl (fun W hW => ?_) (fun W hW => callB hW (raInt_any 0 _)) ?_
             focus
               go_simp
               try with_reducible rfl
               done
             simp only [Act.put, List.setIfInBounds_toArray, List.set_cons_zero, List.set_cons_succ])
          | (refine stepC rfl (fun W hW => ?_) (fun W hW => callB hW (raCmp_is x1 x2 0 1 u HS0.out sm01 HU.out _)) ?_
             focus
               go_simp
               try with_reducible rfl
               done
             simp only [Act.put, List.setIfInBounds_toArray, List.set_cons_zero, List.set_cons_succ]))
        refine stepN ?_
        intro w2 hw2
        have hB := nextW hb hw2.out
        clear hw2 v1 t1
        go_wp2_with fail
        go_ret
        exact ⟨ret_bool (by rw [HW.out, HU.out]; simp at hu0; simp [hu0]), hB⟩
      · rcases hv0 : ((v : Int) == 0) with _ | _
        · go_wp2_with fail
          refine wp_region_below (by kernel_rfl) (by kernel_rfl) ?_
          iterate 20 (first
            | (refine stepS rfl ?_; simp only [Act.put, List.setIfInBounds_toArray, List.set_cons_zero, List.set_cons_succ])
            | (refine stepV (v := ?_) rfl (fun W hW => ?_) ?_
               rotate_left
               focus
                 have qc0 := cellB hW.out e0
                 have qc1 := cellB hW.out e1
                 have qc2 := cellB hW.out e2
                 have qc3 := cellB hW.out e3
                 go_simp
                 try with_reducible rfl
                 done
               simp only [Act.put, List.setIfInBounds_toArray, List.set_cons_zero, List.set_cons_succ])
            | (refine stepC rfl (fun W hW => ?_) (fun W hW => callB hW (raInt_any 0 _)) ?_
               focus
                 go_simp
                 try with_reducible rfl
                 done
               simp only [Act.put, List.setIfInBounds_toArray, List.set_cons_zero, List.set_cons_succ])
            | (refine stepC rfl (fun W hW => ?_) (fun W hW => callB hW (raCmp_is x1 x2 0 1 u HS0.out sm01 HU.out _)) ?_
               focus
                 go_simp
                 try with_reducible rfl
                 done
               simp only [Act.put, List.setIfInBounds_toArray, List.set_cons_zero, List.set_cons_succ])
            | (refine stepC rfl (fun W hW => ?_) (fun W hW => callB hW (raInt_any 1 _)) ?_
               focus
                 go_simp
                 try with_reducible rfl
                 done
               simp only [Act.put, List.setIfInBounds_toArray, List.set_cons_zero, List.set_cons_succ])
            | (refine stepC rfl (fun W hW => ?_) (fun W hW => callB hW (raCmp_is y1 y2 1 1 v HS1.out sm11 HV.out _)) ?_
               focus
                 go_simp
                 try with_reducible rfl
                 done
               simp only [Act.put, List.setIfInBounds_toArray, List.set_cons_zero, List.set_cons_succ]))
          refine stepN ?_
          intro w2 hw2
          have hB := nextW hb hw2.out
          clear hw2 v1 t1
          go_wp2_with fail
          go_ret
          exact ⟨ret_bool (by rw [HW.out, HV.out]; simp at hv0; simp [hv0]), hB⟩
        · go_wp2_with fail
          refine wp_region_below (by kernel_rfl) (by kernel_rfl) ?_
          iterate 20 (first
            | (refine stepS rfl ?_; simp only [Act.put, List.setIfInBounds_toArray, List.set_cons_zero, List.set_cons_succ])
            | (refine stepV (v := ?_) rfl (fun W hW => ?_) ?_
               rotate_left
               focus
                 have qc0 := cellB hW.out e0
                 have qc1 := cellB hW.out e1
                 have qc2 := cellB hW.out e2
                 have qc3 := cellB hW.out e3
                 go_simp
                 try with_reducible rfl
                 done
               simp only [Act.put, List.setIfInBounds_toArray, List.set_cons_zero, List.set_cons_succ])
            | (refine stepC rfl (fun W hW => ?_) (fun W hW => callB hW (raInt_any 0 _)) ?_
               focus
                 go_simp
                 try with_reducible rfl
                 done
               simp only [Act.put, List.setIfInBounds_toArray, List.set_cons_zero, List.set_cons_succ])
            | (refine stepC rfl (fun W hW => ?_) (fun W hW => callB hW (raCmp_is x1 x2 0 1 u HS0.out sm01 HU.out _)) ?_
               focus
                 go_simp
                 try with_reducible rfl
                 done
               simp only [Act.put, List.setIfInBounds_toArray, List.set_cons_zero, List.set_cons_succ])
            | (refine stepC rfl (fun W hW => ?_) (fun W hW => callB hW (raInt_any 1 _)) ?_
               focus
                 go_simp
                 try with_reducible rfl
                 done
               simp only [Act.put, List.setIfInBounds_toArray, List.set_cons_zero, List.set_cons_succ])
            | (refine stepC rfl (fun W hW => ?_) (fun W hW => callB hW (raCmp_is y1 y2 1 1 v HS1.out sm11 HV.out _)) ?_
               focus
                 go_simp
                 try with_reducible rfl
                 done
               simp only [Act.put, List.setIfInBounds_toArray, List.set_cons_zero, List.set_cons_succ]))
          refine stepN ?_
          intro w2 hw2
          have hB := nextW hb hw2.out
          clear hw2 v1 t1
          go_wp2_with fail
          go_ret
          exact ⟨ret_bool (by rw [HW.out, HU.out, HV.out]; simp at hu0 hv0; simp [hu0, hv0]), hB⟩

theorem imGood_is (ps : List Pt) (v : Value) (t : Bool) (w : World) (hv : RdP w v ps) (hn : ps.length ≤ 1048576) (ht : okMap ps = t) :
    Calls Try.prog 21 #[v] w fun e w' => e = .returned (.bool t) ∧ Below w.heap.size w w' := by
  by_cases h1 : 2 ≤ ps.length ∧ ps.length ≤ 12
  · obtain ⟨A, c, rfl, hl, hm, hcell⟩ := hv
    obtain ⟨g, o, rfl, hg, hc⟩ := hcell (by intro e; rw [e] at h1; simp at h1)
    exact imGood_in ps g o c t w hg hl h1 ht hc
  · rw [okMap_noLen h1] at ht
    subst ht
    exact imGood_len ps v w hv (by omega) h1

end Go.Proofs.Ytkeajfgcjmhmiaa

namespace Go.Proofs.Ytkeajfgcjmhmiaa
open Go.ChangeShapes Go.WideShapes Go.ChangeAt Go.RowKit Go.Joins

theorem list4 {α : Type} {l : List α} (h : l.length = 4) : ∃ a b c d, l = [a, b, c, d] := by
  match l, h with
  | [a, b, c, d], _ => exact ⟨a, b, c, d, rfl⟩

section
variable {H : Type} {enc : TypeId × Value → H} {W : World} {base : Nat} {sp : Nat → Bool} {hd : Bool}

end

end Go.Proofs.Ytkeajfgcjmhmiaa

namespace Go.Proofs.Ytkeajfgcjmhmiaa
open Go.RowKit

def EqTo (n : Nat) (w : World) (i : Value) (wr : World) : Prop := ∃ k : Nat, k ≤ n ∧ i = .int .i64 k ∧ Below w.heap.size w wr

end Go.Proofs.Ytkeajfgcjmhmiaa

namespace Go.Proofs.Ytkeajfgcjmhmiaa
open Go.RowKit


end Go.Proofs.Ytkeajfgcjmhmiaa
