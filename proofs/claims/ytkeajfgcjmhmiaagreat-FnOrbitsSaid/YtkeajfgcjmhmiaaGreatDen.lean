/- GreatestDen of both. -/
import Derived.Test.YtkeajfgcjmhmiaaGreatMarks
namespace Go.Proofs.YtkeajfgcjmhmiaaGreat
open Go.RowKit

def denMax (l : List Q) : Int := l.foldl (fun m q => max m q.2) 0
theorem denMax_snoc {l : List Q} {j : Nat} {q : Q} (h : l[j]? = some q) : denMax (l.take (j + 1)) = max (denMax (l.take j)) q.2 := by
  obtain ⟨h1, h2⟩ := List.getElem?_eq_some_iff.1 h
  rw [List.take_succ_eq_append_getElem h1, h2]
  unfold denMax
  rw [List.foldl_append]; rfl
def denQ (ps : List Pt) (x : Q) (n : Int) : Int × Bool := (denMax (orbOf ps x n).1, (orbOf ps x n).2)
def RelDen (l : List Q) (W0 : World) (m i : Value) (wr : World) : Prop := ∃ j : Nat, j ≤ l.length ∧ i = .int .i64 j ∧ m = .int .i64 (denMax (l.take j)) ∧ Below W0.heap.size W0 wr

set_option maxHeartbeats 1600000 in
theorem iGreatestDen_is (ps : List Pt) (v : Value) (x1 x2 n : Int) (k0 : Int) (t : Bool) (hl : denQ ps (x1, x2) n = (k0, t)) (w : World) (hv : RdP w v ps) (hn : ps.length ≤ 1048576) :
    Calls Tryz.prog 50 #[v, .agg #[.int .i64 x1, .int .i64 x2], .int .i64 n] w fun e w' => e = .returned (.tuple #[.int .i64 k0, .bool t]) ∧ Below w.heap.size w w' := by
  rcases ho : orbOf ps (x1, x2) n with ⟨l, tt⟩
  obtain ⟨rfl, rfl⟩ : denMax l = k0 ∧ tt = t := by unfold denQ at hl; rw [ho] at hl; exact Prod.mk.inj hl
  have HL := Lib.hid ho
  have HV := Lib.hid hv
  clear hv ho hl
  go_enter Tryz.func50, Tryz.ntmps50
  go_wp2_with fail
  refine (iOrbitOf_is ps v x1 x2 n l tt HL.out _ (HV.out.keep (by go_grown)) hn).mono ?_
  rintro e w1 ⟨r, rfl, ow, hb⟩
  have hX : Below w.heap.size w w1 := nextX (by go_grown) hb
  have b00 : w1.cell? ⟨w.heap.size, 0, none⟩ = some (.int .i64 x1) := cellB hb (by simp [go_sem])
  have b01 : w1.cell? ⟨w.heap.size, 1, none⟩ = some (.int .i64 x2) := cellB hb (by simp [go_sem])
  have zb00 := lt_of_cell b00
  have hB : Below w.heap.size w w1 := hX
  clear hb hX
  have HRd := Lib.hid ow.read
  obtain ⟨A, cap, rfl, hle, hm⟩ := ownsRow_slice ow
  unfold maxLen at hm
  clear ow
  go_wp2_with fail
  go_name_world W0 hW
  have hW0 : Below w1.heap.size w1 W0 := by rw [← hW]; go_grown
  have hRd := Lib.hid (RdQ.keep HRd.out hW0)
  replace hB := nextW hB hW0
  clear hW hW0
  go_loopw [10, 22] (fun m i wr => RelDen (l) W0 m i wr) (fun _ i _ => l.length - (intOf i).toNat)
  case atStart => exact ⟨0, Nat.zero_le _, rfl, rfl, Below.refl _ _⟩
  case round =>
    obtain ⟨j, hj, rfl, rfl, hb⟩ := hrel
    have hzb := hb.size
    by_cases hlt : j < l.length
    · have hq := List.getElem?_eq_getElem (Nat.lt_of_lt_of_eq hlt (rfl).symm)
      generalize (l)[j] = q at *
      obtain ⟨q1, q2⟩ := q
      obtain ⟨A1, c1, he, -, -, hcell⟩ := (RdQ.keep hRd.out hb)
      simp only [Value.slice.injEq] at he
      obtain ⟨rfl, -, -⟩ := he
      obtain ⟨g1, o1, he, -, hc⟩ := hcell (by intro h; rw [h] at hq; simp at hq)
      obtain ⟨d0, d1⟩ := hc _ _ hq
      have hS := Lib.hid (denMax_snoc hq)
      clear hq hc hcell
      subst he
      generalize hdm : denMax ((l).take j) = M at *
      clear hdm
      go_wp2_with fail
      go_roundw
      case rel => exact ⟨j + 1, by omega, by go_num, by rw [hS.out]; refine congrArg _ ?_; simp only; split <;> omega, by go_grown⟩
      case measure => simp [intOf]; omega
    · obtain rfl : j = l.length := by omega
      have hE := Lib.hid (show denMax ((l).take l.length) = denMax (l) by rw [List.take_of_length_le (Nat.le_of_eq rfl)])
      go_wp2_with fail
      go_ret2
      exact ⟨by rw [hE.out]; rfl, nextW hB hb⟩


set_option maxHeartbeats 1600000 in
theorem sGreatestDen_is (ps : List Pt) (v : Value) (x1 x2 n : Int) (k0 : Int) (t : Bool) (hl : denQ ps (x1, x2) n = (k0, t)) (w : World) (hv : RdP w v ps) (hn : ps.length ≤ 1048576) :
    Calls Tryz.prog 51 #[v, .agg #[.int .i64 x1, .int .i64 x2], .int .i64 n] w fun e w' => e = .returned (.tuple #[.int .i64 k0, .bool t]) ∧ Below w.heap.size w w' := by
  rcases hs : isStartB ps (x1, x2) n with _ | _
  · have HS := Lib.hid hs
    have HV := Lib.hid hv
    have ho := orbOf_a hs
    obtain ⟨rfl, rfl⟩ : 0 = k0 ∧ false = t := by unfold denQ at hl; rw [ho] at hl; exact Prod.mk.inj hl
    clear ho hl
    clear hs hv
    go_enter Tryz.func51, Tryz.ntmps51
    go_wp2_with fail
    refine (orAsked_is ps v x1 x2 n false _ (HV.out.keep (by go_grown)) hn HS.out).mono ?_
    rintro e w1 ⟨rfl, hb⟩
    have hX : Below w.heap.size w w1 := nextX (by go_grown) hb
    have b00 : w1.cell? ⟨w.heap.size, 0, none⟩ = some (.int .i64 x1) := cellB hb (by simp [go_sem])
    have b01 : w1.cell? ⟨w.heap.size, 1, none⟩ = some (.int .i64 x2) := cellB hb (by simp [go_sem])
    have zb00 := lt_of_cell b00
    have hB : Below w.heap.size w w1 := hX
    clear hb hX
    go_wp2_with fail
    go_ret2
    exact ⟨rfl, hB⟩
  · have hm : okMap ps = true := by unfold isStartB at hs; simp only [Bool.and_eq_true] at hs; exact hs.1
    have hx : unitQ x1 x2 = true := by unfold isStartB at hs; simp only [Bool.and_eq_true] at hs; exact hs.2.1
    have h60 : 0 ≤ n ∧ n ≤ 60 := by unfold isStartB at hs; simp only [Bool.and_eq_true, decide_eq_true_eq] at hs; exact hs.2.2
    obtain ⟨k, rfl⟩ := Int.eq_ofNat_of_zero_le h60.1
    have hk : k ≤ 60 := by omega
    have hlen := orbQ_len ps (x1, x2) k
    have HS := Lib.hid hs
    have HV := Lib.hid hv
    have HM := Lib.hid hm
    have HX := Lib.hid hx
    by_cases hf : (orbQ ps (x1, x2) k).length = k + 1
    · have HF := Lib.hid hf
      have ho := orbOf_b hs hf
      obtain ⟨rfl, rfl⟩ : denMax (orbQ ps (x1, x2) k) = k0 ∧ true = t := by unfold denQ at hl; rw [ho] at hl; exact Prod.mk.inj hl
      clear ho hl
      clear hs hm hx hv h60 hlen
      go_enter Tryz.func51, Tryz.ntmps51
      go_wp2_with fail
      refine (orAsked_is ps v x1 x2 k true _ (HV.out.keep (by go_grown)) hn HS.out).mono ?_
      rintro e w1 ⟨rfl, hb⟩
      have hX : Below w.heap.size w w1 := nextX (by go_grown) hb
      have b00 : w1.cell? ⟨w.heap.size, 0, none⟩ = some (.int .i64 x1) := cellB hb (by simp [go_sem])
      have b01 : w1.cell? ⟨w.heap.size, 1, none⟩ = some (.int .i64 x2) := cellB hb (by simp [go_sem])
      have zb00 := lt_of_cell b00
      have hB : Below w.heap.size w w1 := hX
      clear hb hX
      go_wp2_with fail
      refine (orRun_is ps v x1 x2 k _ (HV.out.keep (nextW hB (by go_grown))) HM.out HX.out hk).mono ?_
      rintro e w2 ⟨r, rfl, ow, hb⟩
      have hX : Below w1.heap.size w1 w2 := nextX (by go_grown) hb
      replace b00 := cellB hX b00
      replace b01 := cellB hX b01
      have zb00 := Nat.lt_of_lt_of_le zb00 hX.size
      replace hB := nextW hB hX
      clear hb hX
      obtain ⟨g, cap, rfl, hc1, hc2, hg1, hg2, hcell⟩ := ow.lit HF.out (by omega)
      unfold maxLen at hc2
      have HC := Lib.hid hcell
      have HO := Lib.hid ow
      clear hcell ow
      have b0 : (k : Int) < ((k + 1 : Nat) : Int) := by omega
      have HRd := Lib.hid HO.out.read
      skip
      go_wp2_with fail
      go_name_world W0 hW
      have hW0 : Below w2.heap.size w2 W0 := by rw [← hW]; go_grown
      have hRd := Lib.hid (RdQ.keep HRd.out hW0)
      replace hB := nextW hB hW0
      clear hW hW0
      go_loopw [9, 27] (fun m i wr => RelDen (orbQ ps (x1, x2) k) W0 m i wr) (fun _ i _ => (k + 1) - (intOf i).toNat)
      case atStart => exact ⟨0, Nat.zero_le _, rfl, rfl, Below.refl _ _⟩
      case round =>
        obtain ⟨j, hj, rfl, rfl, hb⟩ := hrel
        have hzb := hb.size
        by_cases hlt : j < (k + 1)
        · have hq := List.getElem?_eq_getElem (Nat.lt_of_lt_of_eq hlt (HF.out).symm)
          generalize (orbQ ps (x1, x2) k)[j] = q at *
          obtain ⟨q1, q2⟩ := q
          obtain ⟨A1, c1, he, -, -, hcell⟩ := (RdQ.keep hRd.out hb)
          simp only [Value.slice.injEq] at he
          obtain ⟨rfl, -, -⟩ := he
          obtain ⟨g1, o1, he, -, hc⟩ := hcell (by intro h; rw [h] at hq; simp at hq)
          obtain ⟨d0, d1⟩ := hc _ _ hq
          have hS := Lib.hid (denMax_snoc hq)
          clear hq hc hcell
          simp only [Option.some.injEq, Addr.mk.injEq, and_true] at he
          obtain ⟨rfl, rfl⟩ := he
          rw [Nat.zero_add] at d0 d1
          generalize hdm : denMax ((orbQ ps (x1, x2) k).take j) = M at *
          clear hdm
          go_wp2_with fail
          refine (l1Most_any _ _ _).mono ?_
          rintro e w3 ⟨rfl, rfl⟩
          go_wp2_with fail
          go_roundw
          case rel => exact ⟨j + 1, by omega, by go_num, by rw [hS.out], by go_grown⟩
          case measure => simp [intOf]; omega
        · obtain rfl : j = (k + 1) := by omega
          have hE := Lib.hid (show denMax ((orbQ ps (x1, x2) k).take (k + 1)) = denMax (orbQ ps (x1, x2) k) by rw [List.take_of_length_le (Nat.le_of_eq HF.out)])
          go_wp2_with fail
          go_ret2
          exact ⟨by rw [hE.out]; rfl, nextW hB hb⟩
    · have HF := Lib.hid hf
      have ho := orbOf_c hf
      obtain ⟨rfl, rfl⟩ : 0 = k0 ∧ false = t := by unfold denQ at hl; rw [ho] at hl; exact Prod.mk.inj hl
      clear ho hl
      clear hs hm hx hv h60
      go_enter Tryz.func51, Tryz.ntmps51
      go_wp2_with fail
      refine (orAsked_is ps v x1 x2 k true _ (HV.out.keep (by go_grown)) hn HS.out).mono ?_
      rintro e w1 ⟨rfl, hb⟩
      have hX : Below w.heap.size w w1 := nextX (by go_grown) hb
      have b00 : w1.cell? ⟨w.heap.size, 0, none⟩ = some (.int .i64 x1) := cellB hb (by simp [go_sem])
      have b01 : w1.cell? ⟨w.heap.size, 1, none⟩ = some (.int .i64 x2) := cellB hb (by simp [go_sem])
      have zb00 := lt_of_cell b00
      have hB : Below w.heap.size w w1 := hX
      clear hb hX
      go_wp2_with fail
      refine (orRun_is ps v x1 x2 k _ (HV.out.keep (nextW hB (by go_grown))) HM.out HX.out hk).mono ?_
      rintro e w2 ⟨r, rfl, ow, hb⟩
      have hX : Below w1.heap.size w1 w2 := nextX (by go_grown) hb
      replace b00 := cellB hX b00
      replace b01 := cellB hX b01
      have zb00 := Nat.lt_of_lt_of_le zb00 hX.size
      replace hB := nextW hB hX
      clear hb hX
      obtain ⟨m, hm⟩ : ∃ m, (orbQ ps (x1, x2) k).length = m := ⟨_, rfl⟩
      rw [hm] at hlen
      have hmk : m ≤ k := by have := HF.out; omega
      obtain ⟨g, cap, rfl, hc1, hc2, hg1, hg2, hcell⟩ := ow.lit hm (by omega)
      unfold maxLen at hc2
      clear hcell ow hm
      have b0 : (m : Int) ≤ (k : Int) := by omega
      go_wp2_with fail
      go_ret2
      exact ⟨rfl, hB⟩


end Go.Proofs.YtkeajfgcjmhmiaaGreat
