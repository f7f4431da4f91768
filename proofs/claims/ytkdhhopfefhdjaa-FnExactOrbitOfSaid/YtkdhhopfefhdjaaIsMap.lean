/- xsOf, isRising and isMap of the program. -/
import Derived.Test.YtkdhhopfefhdjaaUnit
import Derived.Test.YtkdhhopfefhdjaaFunc
import Derived.Test.YtkdhhopfefhdjaaAppend
import Derived.Deep.RegionHeld3
import Derived.Deep.DrawnRows
namespace Go.Proofs.Ytkdhhopfefhdjaa
open Go.RowKit

/-- A call that gives a row of fractions of its own. -/
def RetQ (w : World) (qs : List Q) (e : Ending) (w' : World) : Prop := ∃ r, e = .returned r ∧ OwQ w.heap.size 34 w' r qs ∧ Below w.heap.size w w'

def RelX (ps : List Pt) (w : World) (out i : Value) (wr : World) : Prop :=
  ∃ k : Nat, k ≤ ps.length ∧ i = .int .i64 k ∧ OwQ w.heap.size 34 wr out ((ps.map (·.1)).take k) ∧ Below w.heap.size w wr

theorem take_map_snoc {ps : List Pt} {k : Nat} {p : Pt} (h : ps[k]? = some p) : (ps.map (·.1)).take (k + 1) = (ps.map (·.1)).take k ++ [p.1] := by
  have hk : k < ps.length := (List.getElem?_eq_some_iff.1 h).1
  have : ps[k] = p := by have := List.getElem?_eq_getElem hk; rw [h] at this; cases this; rfl
  rw [List.take_succ_eq_append_getElem (by simpa using hk)]
  simp [this]

set_option maxHeartbeats 800000 in
theorem xsOf_any (ps : List Pt) (v : Value) (w : World) (hv : RdP w v ps) (hn : ps.length ≤ 800000) :
    Calls Try.prog 131 #[v] w (RetQ w (ps.map (·.1))) := by
  obtain ⟨A, c, rfl, hl, hm, hcell⟩ := hv
  unfold maxLen at hm
  have HC := Lib.hid hcell
  clear hcell
  go_enter Try.func131, Try.ntmps131
  go_wp2_with fail
  go_loopw [3, 8] (fun out i wr => RelX ps w out i wr) (fun _ i _ => ps.length - (intOf i).toNat)
  case atStart => exact ⟨0, Nat.zero_le _, rfl, World.ownsRow_nil _ _ _ _, Below.refl _ _⟩
  case round =>
    obtain ⟨k, hk, rfl, hown, hb⟩ := hrel
    have HO := Lib.hid hown
    clear hown
    by_cases hlt : k < ps.length
    · obtain ⟨g, o, rfl, hg, hc⟩ := HC.out (by intro h; rw [h] at hlt; simp at hlt)
      have hq := hc k ps[k] (List.getElem?_eq_getElem hlt)
      have hqk := List.getElem?_eq_getElem hlt
      generalize ps[k] = q at *
      obtain ⟨⟨a1, a2⟩, a3, a4⟩ := q
      obtain ⟨c0, c1, c2, c3⟩ := hq
      rw [← hb.cell (p := ⟨g, _, none⟩) hg] at c0 c1 c2 c3
      clear hc HC
      have HS := Lib.hid (take_map_snoc hqk)
      clear hqk
      have z := hb.size
      go_wp2_with (at_builtin; refine append_q1 _ rfl _ _ rfl w.heap.size _ ((ps.map (·.1)).take k) rfl ?own _ _ a1 a2 rfl ?c0 ?c1 ?len ?base ?_)
      case own => exact (OwQ.keep HO.out (by go_grown))
      case len => omega
      case base => go_size
      intro v' w' hown hb2
      have hB : Below w.heap.size w w' := Below.trans (by go_grown) hb2
      clear hb2 c0 c1 c2 c3
      have HO2 := Lib.hid hown
      clear hown HO
      go_wp2_with fail
      go_roundw
      case rel => exact ⟨k + 1, by omega, by go_num, by rw [HS.out]; exact HO2.out, hB⟩
      case measure => simp [intOf]; omega
    · obtain rfl : k = ps.length := by omega
      have HE := Lib.hid (show OwQ w.heap.size 34 wr u3 (ps.map (·.1)) by have := HO.out; rwa [List.take_of_length_le (by simp)] at this)
      clear HO
      go_wp2_with fail
      go_ret
      exact ⟨_, rfl, HE.out, hb⟩

def AllSm (qs : List Q) : Prop := ∀ q ∈ qs, Sm q.1 ∧ Sm q.2
def UpTo (qs : List Q) (k : Nat) : Prop := ∀ (i : Nat) (x y : Q), i + 1 < k → qs[i]? = some x → qs[i + 1]? = some y → lessQ x.1 x.2 y.1 y.2 = true
theorem UpTo.one (qs : List Q) : UpTo qs 1 := fun i x y h => by omega
theorem UpTo.more {qs : List Q} {k : Nat} {x y : Q} (h : UpTo qs (k + 1)) (hx : qs[k]? = some x) (hy : qs[k + 1]? = some y) (hl : lessQ x.1 x.2 y.1 y.2 = true) : UpTo qs (k + 1 + 1) := by
  intro i a b hi ha hb
  by_cases e : i = k
  · subst e; rw [hx] at ha; rw [hy] at hb; cases ha; cases hb; exact hl
  · exact h i a b (by omega) ha hb
theorem UpTo.fails {qs : List Q} {k : Nat} {x y : Q} (hx : qs[k]? = some x) (hy : qs[k + 1]? = some y) (hl : lessQ x.1 x.2 y.1 y.2 = false) : risingB qs = false := by
  rcases h : risingB qs with _ | _
  · rfl
  · rw [(risingB_iff qs).1 h k x y hx hy] at hl; cases hl
theorem UpTo.whole {qs : List Q} {k : Nat} (h : UpTo qs k) (hk : qs.length ≤ k) : risingB qs = true := by
  rw [risingB_iff]
  intro i x y hx hy
  exact h i x y (by have := (List.getElem?_eq_some_iff.1 hy).1; omega) hx hy

def RelR (qs : List Q) (w : World) (i : Value) (wr : World) : Prop := ∃ k : Nat, k ≤ qs.length ∧ i = .int .i64 (k + 1) ∧ UpTo qs (k + 1) ∧ Below w.heap.size w wr

set_option maxHeartbeats 800000 in
theorem isRising_any (qs : List Q) (v : Value) (w : World) (hv : RdQ w v qs) (hs : AllSm qs) :
    Calls Try.prog 130 #[v] w fun e w' => e = .returned (.bool (risingB qs)) ∧ Below w.heap.size w w' := by
  obtain ⟨A, c, rfl, hl, hm, hcell⟩ := hv
  unfold maxLen at hm
  have HC := Lib.hid hcell
  have HS := Lib.hid hs
  clear hcell hs
  go_enter Try.func130, Try.ntmps130
  go_wp2_with fail
  go_loopw [3] (fun i wr => RelR qs w i wr) (fun i _ => qs.length - (intOf i).toNat)
  case atStart => exact ⟨0, Nat.zero_le _, rfl, UpTo.one _, Below.refl _ _⟩
  case round =>
    obtain ⟨k, hk, rfl, hup, hb⟩ := hrel
    have HU := Lib.hid hup
    clear hup
    by_cases hlt : k + 1 < qs.length
    · obtain ⟨g, o, rfl, hg, hc⟩ := HC.out (by intro h; rw [h] at hlt; simp at hlt)
      have h1 := List.getElem?_eq_getElem (show k < qs.length by omega)
      have h2 := List.getElem?_eq_getElem hlt
      have e1 := hc k _ h1
      have e2 := hc (k + 1) _ h2
      have m1 := HS.out _ (List.getElem_mem (show k < qs.length by omega))
      have m2 := HS.out _ (List.getElem_mem hlt)
      generalize qs[k] = x at *
      generalize qs[k + 1] = y at *
      obtain ⟨x1, x2⟩ := x
      obtain ⟨y1, y2⟩ := y
      obtain ⟨c0, c1⟩ := e1
      obtain ⟨c2, c3⟩ := e2
      rw [← hb.cell (p := ⟨g, _, none⟩) hg] at c0 c1 c2 c3
      clear hc HC HS
      have H1 := Lib.hid h1
      have H2 := Lib.hid h2
      have M1 := Lib.hid m1
      have M2 := Lib.hid m2
      clear h1 h2 m1 m2
      rcases hle : lessQ x1 x2 y1 y2 with _ | _
      all_goals
        have HL := Lib.hid hle
        clear hle
        have b0 : (0 : Int) ≤ (k : Int) := by omega
        have b1 : (k : Int) < (qs.length : Int) := by omega
        have b2 : (k : Int) + 1 < (qs.length : Int) := by omega
        have b3 : (0 : Int) ≤ (k : Int) + 1 := by omega
        have t2 : ((k : Int) + 1).toNat = k + 1 := by omega
        have v1 : IntKind.i64.wrap ((k : Int)) = (k : Int) := IntWalk.i64_in _ (by omega)
        have v2 : IntKind.i64.wrap ((k : Int) + 1) = (k : Int) + 1 := IntWalk.i64_in _ (by omega)
        go_wp2_with fail
        go_region_held3 (fun w' => w'.cell? ⟨g, o + k * 2, none⟩ = some (.int .i64 x1) ∧ w'.cell? ⟨g, o + k * 2 + 1, none⟩ = some (.int .i64 x2) ∧ w'.cell? ⟨g, o + (k + 1) * 2, none⟩ = some (.int .i64 y1) ∧ w'.cell? ⟨g, o + (k + 1) * 2 + 1, none⟩ = some (.int .i64 y2))
          ((first | exact ⟨c0, c1, c2, c3⟩ | exact ⟨cellB hb1 c0, cellB hb1 c1, cellB hb1 c2, cellB hb1 c3⟩))
          ((first | (go_at_call 101; refine (less_any x1 x2 y1 y2 M1.out.1 M1.out.2 M2.out.1 M2.out.2 _).mono ?_; rintro e w1 ⟨he, hb1⟩; rw [HL.out] at he; subst he)))
        have hB : Below w.heap.size w w1 := nextB (X := wr.drew) hb.drew hb.size hb1
        clear hb1 c0 c1 c2 c3 v1 v2 t2 b0 b1 b2 b3
        go_wp2_with fail
      · have HF := Lib.hid (UpTo.fails H1.out H2.out HL.out)
        go_ret
        exact ⟨ret_bool HF.out.symm, hB⟩
      · go_roundw
        case rel => exact ⟨k + 1, by omega, by go_num, UpTo.more HU.out H1.out H2.out HL.out, hB⟩
        case measure => simp [intOf]; omega
    · have HW := Lib.hid (UpTo.whole HU.out (by omega))
      go_wp2_with fail
      go_ret
      exact ⟨ret_bool HW.out.symm, hb⟩

end Go.Proofs.Ytkdhhopfefhdjaa
