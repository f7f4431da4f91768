/- PeriodOf of both. -/
import Derived.Test.YtkdhhopfefhdjaaPer
namespace Go.Proofs.Ytkdhhopfefhdjaa
open Go.RowKit

def perN (ps : List Pt) (x : Q) (n : Int) : Int × Int × Bool := if isStartB ps x n = true then perOf ps x n.toNat else (0, 0, false)
theorem perN_yes {ps : List Pt} {x : Q} {n : Int} {l : List Q} (h : orbOf ps x n = (l, true)) : perN ps x n = perQ l := by
  unfold orbOf at h
  split at h
  · rename_i hh
    unfold perN perOf
    rw [if_pos hh.1, if_pos hh.2]
    obtain ⟨rfl, -⟩ := Prod.mk.inj h
    rfl
  · simp at h
theorem perN_no {ps : List Pt} {x : Q} {n : Int} {l : List Q} (h : orbOf ps x n = (l, false)) : perN ps x n = (0, 0, false) := by
  unfold orbOf at h
  split at h
  · simp at h
  · rename_i hh
    unfold perN perOf
    by_cases h1 : isStartB ps x n = true
    · rw [if_pos h1, if_neg (fun h2 => hh ⟨h1, h2⟩)]
    · rw [if_neg h1]

set_option maxHeartbeats 800000 in
theorem iPeriodOf_is (ps : List Pt) (v : Value) (x1 x2 n : Int) (a b : Int) (t : Bool) (hl : perN ps (x1, x2) n = (a, b, t)) (w : World) (hv : RdP w v ps) (hn : ps.length ≤ 1048576) :
    Calls Try.prog 62 #[v, .agg #[.int .i64 x1, .int .i64 x2], .int .i64 n] w fun e w' => e = .returned (.tuple #[.int .i64 a, .int .i64 b, .bool t]) ∧ Below w.heap.size w w' := by
  rcases ho : orbOf ps (x1, x2) n with ⟨l, tt⟩
  have HL := Lib.hid ho
  have HV := Lib.hid hv
  rcases tt with _ | _
  · have hz := perN_no ho
    rw [hl] at hz
    obtain ⟨rfl, h2⟩ := Prod.mk.inj hz
    obtain ⟨rfl, rfl⟩ := Prod.mk.inj h2
    clear hv ho hl hz h2
    go_enter Try.func62, Try.ntmps62
    go_wp2_with fail
    refine (iOrbitOf_is ps v x1 x2 n l false HL.out _ (HV.out.keep (by go_grown)) hn).mono ?_
    rintro e w1 ⟨r, rfl, -, hb⟩
    have hX : Below w.heap.size w w1 := nextX (by go_grown) hb
    have b00 : w1.cell? ⟨w.heap.size, 0, none⟩ = some (.int .i64 x1) := cellB hb (by simp [go_sem])
    have b01 : w1.cell? ⟨w.heap.size, 1, none⟩ = some (.int .i64 x2) := cellB hb (by simp [go_sem])
    have zb00 := lt_of_cell b00
    have hB : Below w.heap.size w w1 := hX
    clear hb hX
    go_wp2_with fail
    go_ret3
    exact ⟨rfl, hB⟩
  · have HP := Lib.hid (show perQ l = (a, b, t) by rw [← perN_yes ho]; exact hl)
    clear hv ho hl
    go_enter Try.func62, Try.ntmps62
    go_wp2_with fail
    refine (iOrbitOf_is ps v x1 x2 n l true HL.out _ (HV.out.keep (by go_grown)) hn).mono ?_
    rintro e w1 ⟨r, rfl, ow, hb⟩
    have hX : Below w.heap.size w w1 := nextX (by go_grown) hb
    have b00 : w1.cell? ⟨w.heap.size, 0, none⟩ = some (.int .i64 x1) := cellB hb (by simp [go_sem])
    have b01 : w1.cell? ⟨w.heap.size, 1, none⟩ = some (.int .i64 x2) := cellB hb (by simp [go_sem])
    have zb00 := lt_of_cell b00
    have hB : Below w.heap.size w w1 := hX
    clear hb hX
    go_wp2_with fail
    refine (periodIn_is l r a b t _ (ow.read.keep (by go_grown)) HP.out).mono ?_
    rintro e w2 ⟨rfl, hb⟩
    have hX : Below w1.heap.size w1 w2 := nextX (by go_grown) hb
    replace b00 := cellB hX b00
    replace b01 := cellB hX b01
    replace ow := ow.keep hX
    have zb00 := Nat.lt_of_lt_of_le zb00 hX.size
    replace hB := nextW hB hX
    clear hb hX
    go_wp2_with fail
    go_ret3
    exact ⟨rfl, hB⟩


set_option maxHeartbeats 800000 in
theorem sPeriodOf_is (ps : List Pt) (v : Value) (x1 x2 n : Int) (a b : Int) (t : Bool) (hl : perN ps (x1, x2) n = (a, b, t)) (w : World) (hv : RdP w v ps) (hn : ps.length ≤ 1048576) :
    Calls Try.prog 61 #[v, .agg #[.int .i64 x1, .int .i64 x2], .int .i64 n] w fun e w' => e = .returned (.tuple #[.int .i64 a, .int .i64 b, .bool t]) ∧ Below w.heap.size w w' := by
  have HV := Lib.hid hv
  rcases hs : isStartB ps (x1, x2) n with _ | _
  · have hz : (0, 0, false) = (a, b, t) := by rw [← hl]; unfold perN; rw [if_neg (by rw [hs]; simp)]
    obtain ⟨rfl, h2⟩ := Prod.mk.inj hz
    obtain ⟨rfl, rfl⟩ := Prod.mk.inj h2
    have HS := Lib.hid hs
    clear hv hl hz h2 hs
    go_enter Try.func61, Try.ntmps61
    go_wp2_with fail
    refine (orAsked_is ps v x1 x2 n false _ (HV.out.keep (by go_grown)) hn HS.out).mono ?_
    rintro e w1 ⟨rfl, hb⟩
    have hX : Below w.heap.size w w1 := nextX (by go_grown) hb
    have b00 : w1.cell? ⟨w.heap.size, 0, none⟩ = some (.int .i64 x1) := cellB hb (by simp [go_sem])
    have b01 : w1.cell? ⟨w.heap.size, 1, none⟩ = some (.int .i64 x2) := cellB hb (by simp [go_sem])
    have zb00 := lt_of_cell b00
    have hB : Below w.heap.size w w1 := hX
    clear hb hX
    go_wp2_with fail
    go_ret3
    exact ⟨rfl, hB⟩
  · obtain ⟨hm, hx, h0, h60⟩ := isStartB_parts hs
    obtain ⟨k, rfl⟩ := Int.eq_ofNat_of_zero_le h0
    have HP := Lib.hid (show perOf ps (x1, x2) k = (a, b, t) by rw [← hl]; unfold perN; rw [if_pos hs]; rfl)
    have HS := Lib.hid hs
    have HM := Lib.hid (And.intro hm hx)
    have hk : k ≤ 60 := by omega
    clear hv hl hs hm hx h0 h60
    go_enter Try.func61, Try.ntmps61
    go_wp2_with fail
    refine (orAsked_is ps v x1 x2 k true _ (HV.out.keep (by go_grown)) hn HS.out).mono ?_
    rintro e w1 ⟨rfl, hb⟩
    have hX : Below w.heap.size w w1 := nextX (by go_grown) hb
    have b00 : w1.cell? ⟨w.heap.size, 0, none⟩ = some (.int .i64 x1) := cellB hb (by simp [go_sem])
    have b01 : w1.cell? ⟨w.heap.size, 1, none⟩ = some (.int .i64 x2) := cellB hb (by simp [go_sem])
    have zb00 := lt_of_cell b00
    have hB : Below w.heap.size w w1 := hX
    clear hb hX
    go_wp2_with fail
    refine (orPeriod_is ps v x1 x2 k a b t HP.out _ (HV.out.keep (nextX hB (by go_grown))) HM.out.1 HM.out.2 hk).mono ?_
    rintro e w2 ⟨rfl, hb⟩
    have hX : Below w1.heap.size w1 w2 := nextX (by go_grown) hb
    replace b00 := cellB hX b00
    replace b01 := cellB hX b01
    have zb00 := Nat.lt_of_lt_of_le zb00 hX.size
    replace hB := nextW hB hX
    clear hb hX
    go_wp2_with fail
    go_ret3
    exact ⟨rfl, hB⟩


end Go.Proofs.Ytkdhhopfefhdjaa
