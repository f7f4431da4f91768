/- PowerOfMap of both. · The reference's IsCycle. · Cycles: slices.Clone, LimitCycle of both, cycleFrom, orCycle. · areUnits, imTwo; VisitsOf of both. · The program's IsCycle. -/
import Derived.Test.YtkeajfgcjmhmiaaGreatJ24
import Derived.Test.YtkeajfgcjmhmiaaGreatJ30
import Derived.Test.YtkeajfgcjmhmiaaGreatJ31
import Derived.Test.YtkeajfgcjmhmiaaGreatJ10
import Derived.Test.YtkeajfgcjmhmiaaGreatJ19
import Derived.Test.YtkeajfgcjmhmiaaGreatJ20
import Derived.Test.YtkeajfgcjmhmiaaGreatJ11
import Derived.Test.YtkeajfgcjmhmiaaGreatJ9
import Derived.Test.YtkeajfgcjmhmiaaGreatJ6
import Derived.Carry
namespace Go.Proofs.YtkeajfgcjmhmiaaGreat
open Go.RowKit

theorem OwP.two (w : World) (base : Nat) (e : TypeId) (a b c d a' b' c' d' : Int) (hb : base ≤ w.heap.size) : OwP base e (w.alloc (.cells #[.int .i64 a, .int .i64 b, .int .i64 c, .int .i64 d, .int .i64 a', .int .i64 b', .int .i64 c', .int .i64 d'] e)) (.slice (some ⟨w.heap.size, 0, none⟩) 2 2) [((a, b), c, d), ((a', b'), c', d')] :=
  ⟨rfl, .inr ⟨w.heap.size, 2, _, rfl, hb, heap_alloc_new w _, Nat.le_refl _, by simp [maxLen], rfl, by simp [rowP]⟩⟩
theorem powQ_next {f : List Pt} {k : Nat} (h : (powQ f k).2 = true) : powQ f (k + 1) = comQ f (powQ f k).1 := by
  conv => lhs; unfold powQ
  rw [if_pos h]
theorem powQ_stop {f : List Pt} {k : Nat} (h : (powQ f k).2 = false) : ∀ n, k ≤ n → (powQ f n).2 = false := by
  intro n hn
  induction hn with
  | refl => exact h
  | step _ ih => unfold powQ; rw [if_neg (by rw [ih]; simp)]
def powR (f : List Pt) (n : Nat) : List Pt × Bool := if (powQ f n).2 = true then powQ f n else ([], false)
theorem powR_no {f : List Pt} {n : Nat} {m : List Pt} {t : Bool} (hl : powR f n = (m, t)) (h : (powQ f n).2 = false) : [] = m ∧ false = t := by
  unfold powR at hl; rw [if_neg (by rw [h]; simp)] at hl; exact Prod.mk.inj hl
theorem powR_yes {f : List Pt} {n : Nat} {m : List Pt} {t : Bool} (hl : powR f n = (m, t)) (h : (powQ f n).2 = true) : (powQ f n).1 = m ∧ true = t := by
  unfold powR at hl; rw [if_pos h] at hl; exact ⟨by rw [hl], by rw [← h, hl]⟩
theorem powerQ_no {f : List Pt} {n : Int} {m : List Pt} {t : Bool} (hl : powerQ f n = (m, t)) (h : ¬ (okMap f = true ∧ 0 ≤ n ∧ n ≤ 6)) : [] = m ∧ false = t := by
  unfold powerQ at hl; rw [if_neg h] at hl; exact Prod.mk.inj hl
theorem powerQ_yes {f : List Pt} {n : Nat} {m : List Pt} {t : Bool} (hl : powerQ f n = (m, t)) (h : okMap f = true) (h6 : n ≤ 6) : powR f n = (m, t) := by
  unfold powerQ at hl; rw [if_pos ⟨h, by omega, by omega⟩] at hl; exact hl
set_option maxHeartbeats 800000 in
theorem identityMap_is (w : World) : Calls Tryz.prog 83 #[] w (RetPs w sameL) := by
  go_enter Tryz.func83, Tryz.ntmps83
  go_wp2_with fail
  refine (zero_any _).mono ?_
  rintro e w1 ⟨rfl, hb⟩
  have hB : Below w.heap.size w w1 := nextX (by go_grown) hb
  clear hb
  go_wp2_with fail
  refine (zero_any _).mono ?_
  rintro e w2 ⟨rfl, hb⟩
  replace hB := nextX hB (nextX (by go_grown) hb)
  clear hb
  go_wp2_with fail
  refine (oneRat_any _).mono ?_
  rintro e w3 ⟨rfl, hb⟩
  replace hB := nextX hB (nextX (by go_grown) hb)
  clear hb
  go_wp2_with fail
  refine (oneRat_any _).mono ?_
  rintro e w4 ⟨rfl, hb⟩
  replace hB := nextX hB (nextX (by go_grown) hb)
  have hz := hB.size
  clear hb
  go_wp2_with fail
  go_ret
  exact ⟨_, rfl, OwP.two w4 _ _ _ _ _ _ _ _ _ _ hz, nextX hB (by go_grown)⟩

set_option maxHeartbeats 800000 in
theorem coSame_is (w : World) : Calls Tryz.prog 135 #[] w (RetPs w sameL) := by
  go_enter Tryz.func135, Tryz.ntmps135
  go_wp2_with fail
  refine (raInt_any 0 _).mono ?_
  rintro e w1 ⟨rfl, hb⟩
  have hB : Below w.heap.size w w1 := nextX (by go_grown) hb
  clear hb
  go_wp2_with fail
  refine (raInt_any 0 _).mono ?_
  rintro e w2 ⟨rfl, hb⟩
  replace hB := nextX hB (nextX (by go_grown) hb)
  clear hb
  go_wp2_with fail
  refine (raInt_any 1 _).mono ?_
  rintro e w3 ⟨rfl, hb⟩
  replace hB := nextX hB (nextX (by go_grown) hb)
  clear hb
  go_wp2_with fail
  refine (raInt_any 1 _).mono ?_
  rintro e w4 ⟨rfl, hb⟩
  replace hB := nextX hB (nextX (by go_grown) hb)
  have hz := hB.size
  clear hb
  go_wp2_with fail
  go_ret
  exact ⟨_, rfl, OwP.two w4 _ _ _ _ _ _ _ _ _ _ hz, nextX hB (by go_grown)⟩

def RelPw (f : List Pt) (N h : Nat) (W0 : World) (out i : Value) (wr : World) : Prop :=
  ∃ k : Nat, k ≤ N ∧ i = .int .i64 k ∧ (powQ f k).2 = true ∧ OwP h 51 wr out (powQ f k).1 ∧ Below W0.heap.size W0 wr
def RelPv (f : List Pt) (N h : Nat) (W0 : World) (i out : Value) (wr : World) : Prop :=
  ∃ r k : Nat, r + k = N ∧ i = .int .i64 r ∧ (powQ f k).2 = true ∧ OwP h 51 wr out (powQ f k).1 ∧ Below W0.heap.size W0 wr

set_option maxHeartbeats 3200000 in
theorem iPowerOfMap_is (f : List Pt) (vf : Value) (n : Int) (m : List Pt) (t : Bool) (hl : powerQ f n = (m, t)) (w : World) (hf : RdP w vf f) (hn : f.length ≤ 1048576) :
    Calls Tryz.prog 18 #[vf, .int .i64 n] w (RetPB w m t) := by
  have HF := Lib.hid hf
  have HL := Lib.hid hl
  rcases hm : okMap f with _ | _
  · obtain ⟨rfl, rfl⟩ := powerQ_no hl (fun h => by rw [hm] at h; simp at h)
    have HM := Lib.hid hm
    clear hf hl hm
    go_enter Tryz.func18, Tryz.ntmps18
    go_wp2_with fail
    refine (isMap_is f _ false _ (HF.out.keep (by go_grown)) hn HM.out).mono ?_
    rintro e w1 ⟨rfl, hb⟩
    have hB : Below w.heap.size w w1 := nextX (by go_grown) hb
    clear hb
    go_wp2_with fail
    go_ret2
    exact ⟨_, rfl, World.ownsRow_nil _ _ _ _, hB⟩
  · have HM := Lib.hid hm
    by_cases h6 : 0 ≤ n ∧ n ≤ 6
    · obtain ⟨N, rfl⟩ : ∃ N : Nat, n = N := ⟨n.toNat, by omega⟩
      have hN : N ≤ 6 := by omega
      have HR := Lib.hid (powerQ_yes hl hm hN)
      clear hf hl hm
      go_enter Tryz.func18, Tryz.ntmps18
      go_wp2_with fail
      refine (isMap_is f _ true _ (HF.out.keep (by go_grown)) hn HM.out).mono ?_
      rintro e w1 ⟨rfl, hb⟩
      have hB : Below w.heap.size w w1 := nextX (by go_grown) hb
      clear hb
      go_wp2_with fail
      refine (within_yes N 0 6 h6.1 h6.2 _).mono ?_
      rintro e w2 ⟨rfl, rfl⟩
      go_wp2_with fail
      refine (identityMap_is _).mono ?_
      rintro e w3 ⟨r3, rfl, ow3, hb⟩
      have HO3 := Lib.hid (show OwP w.heap.size 51 w3 r3 (powQ f 0).1 from ow3.low hB.size)
      replace hB := nextX hB (nextX (by go_grown) hb)
      clear ow3 hb
      go_wp2_with fail
      go_name_world W0 hW
      have hX : Below w3.heap.size w3 W0 := by rw [← hW]; go_grown
      have HO0 := Lib.hid (HO3.out.keep hX)
      replace hB := nextX hB hX
      clear hW hX HO3
      go_loopw [6, 18] (fun out i wr => RelPw f N w.heap.size W0 out i wr) (fun _ i _ => N - (intOf i).toNat)
      case atStart => exact ⟨0, Nat.zero_le _, rfl, rfl, HO0.out, Below.refl _ _⟩
      case round =>
        obtain ⟨k, hk2, rfl, hp, hown, hb⟩ := hrel
        have HO := Lib.hid hown
        have HP := Lib.hid hp
        have hBr := nextW hB hb
        have hzr : w.heap.size ≤ wr.heap.size := hBr.size
        clear hown hp
        by_cases hlt : k < N
        · obtain ⟨⟨l, tt⟩, hq⟩ : ∃ r, comQ f (powQ f k).1 = r := ⟨_, rfl⟩
          have HQ := Lib.hid hq
          have HNx := Lib.hid ((powQ_next HP.out).trans hq)
          have HMk := Lib.hid (powQ_map f k HP.out)
          have b0 : (0 : Int) ≤ (k : Int) := by omega
          have b1 : (k : Int) < (N : Int) := by omega
          have v2 : IntKind.i64.wrap ((k : Int) + 1) = (k : Int) + 1 := IntWalk.i64_in _ (by omega)
          have v3 : IntKind.i64.wrap (k : Int) = (k : Int) := IntWalk.i64_in _ (by omega)
          clear hq
          go_wp2_with fail
          refine (composed_is f _ _ _ l tt HQ.out _ (HF.out.keep (nextX hBr (by go_grown))) (HO.out.read.keep (by go_grown)) HM.out HMk.out).mono ?_
          rintro e w5 ⟨r5, rfl, ow5, hb5⟩
          have hX5 : Below wr.heap.size wr w5 := nextX (by go_grown) hb5
          have HO5 := Lib.hid (ow5.low (b := w.heap.size) (by go_size))
          have hB5 := nextX hb hX5
          have hB6 := nextX hBr hX5
          clear ow5 hb5 hX5 HO
          rcases tt with _ | _
          · obtain ⟨rfl, rfl⟩ := powR_no HR.out (powQ_stop (k := k + 1) (by rw [HNx.out]) N hlt)
            go_wp2_with fail
            go_ret2
            exact ⟨_, rfl, World.ownsRow_nil _ _ _ _, hB6⟩
          · go_wp2_with fail
            go_roundw
            case rel => exact ⟨k + 1, by omega, by go_num, by rw [HNx.out], by rw [HNx.out]; exact HO5.out, hB5⟩
            case measure => simp [intOf] <;> omega
        · obtain rfl : k = N := by omega
          obtain ⟨rfl, rfl⟩ := powR_yes HR.out HP.out
          go_wp2_with fail
          go_ret2
          exact ⟨_, rfl, HO.out, hBr⟩
    · obtain ⟨rfl, rfl⟩ := powerQ_no hl (fun h => h6 h.2)
      clear hf hl hm
      go_enter Tryz.func18, Tryz.ntmps18
      go_wp2_with fail
      refine (isMap_is f _ true _ (HF.out.keep (by go_grown)) hn HM.out).mono ?_
      rintro e w1 ⟨rfl, hb⟩
      have hB : Below w.heap.size w w1 := nextX (by go_grown) hb
      clear hb
      go_wp2_with fail
      refine (within_no n 0 6 h6 _).mono ?_
      rintro e w2 ⟨rfl, rfl⟩
      go_wp2_with fail
      go_ret2
      exact ⟨_, rfl, World.ownsRow_nil _ _ _ _, hB⟩

set_option maxHeartbeats 3200000 in
theorem coPower_is (f : List Pt) (vf : Value) (N : Nat) (m : List Pt) (t : Bool) (hl : powR f N = (m, t)) (w : World) (hf : RdP w vf f) (hm : okMap f = true) (hN : N ≤ 6) :
    Calls Tryz.prog 84 #[vf, .int .i64 N] w (RetPB w m t) := by
  have HF := Lib.hid hf
  have HR := Lib.hid hl
  have HM := Lib.hid hm
  clear hf hl hm
  go_enter Tryz.func84, Tryz.ntmps84
  go_wp2_with fail
  refine (coSame_is _).mono ?_
  rintro e w3 ⟨r3, rfl, ow3, hb⟩
  have HO3 := Lib.hid (show OwP w.heap.size 51 w3 r3 (powQ f 0).1 from ow3)
  have hB : Below w.heap.size w w3 := nextX (by go_grown) hb
  clear ow3 hb
  go_wp2_with fail
  go_name_world W0 hW
  have hX : Below w3.heap.size w3 W0 := by rw [← hW]; go_grown
  have HO0 := Lib.hid (HO3.out.keep hX)
  replace hB := nextX hB hX
  clear hW hX HO3
  go_loopw [1, 6] (fun i out wr => RelPv f N w.heap.size W0 i out wr) (fun i _ _ => (intOf i).toNat)
  case atStart => exact ⟨N, 0, rfl, rfl, rfl, HO0.out, Below.refl _ _⟩
  case round =>
    obtain ⟨r, k, hk2, rfl, hp, hown, hb⟩ := hrel
    have HO := Lib.hid hown
    have HP := Lib.hid hp
    have hBr := nextW hB hb
    have hzr : w.heap.size ≤ wr.heap.size := hBr.size
    clear hown hp
    rcases r with _ | r
    · obtain rfl : k = N := by omega
      obtain ⟨rfl, rfl⟩ := powR_yes HR.out HP.out
      go_wp2_with fail
      go_ret2
      exact ⟨_, rfl, HO.out, hBr⟩
    · obtain ⟨⟨l, tt⟩, hq⟩ : ∃ r, comQ f (powQ f k).1 = r := ⟨_, rfl⟩
      have HQ := Lib.hid hq
      have HNx := Lib.hid ((powQ_next HP.out).trans hq)
      have HMk := Lib.hid (powQ_map f k HP.out)
      have b0 : (0 : Int) < (r : Int) + 1 := by omega
      have v2 : IntKind.i64.wrap ((r : Int) + 1 - 1) = (r : Int) := IntWalk.i64_in _ (by omega) |>.trans (by omega)
      have v3 : IntKind.i64.wrap (r : Int) = (r : Int) := IntWalk.i64_in _ (by omega)
      have v4 : (r : Int) + 1 - 1 = r := by omega
      rw [show (((r + 1 : Nat)) : Int) = (r : Int) + 1 from by omega]
      clear hq
      go_wp2_with fail
      refine (coCompose_is f _ _ _ l tt HQ.out _ (HF.out.keep (nextX hBr (by go_grown))) (HO.out.read.keep (by go_grown)) HM.out HMk.out).mono ?_
      rintro e w5 ⟨r5, rfl, ow5, hb5⟩
      have hX5 : Below wr.heap.size wr w5 := nextX (by go_grown) hb5
      have HO5 := Lib.hid (ow5.low (b := w.heap.size) (by go_size))
      have hB5 := nextX hb hX5
      have hB6 := nextX hBr hX5
      clear ow5 hb5 hX5 HO
      rcases tt with _ | _
      · obtain ⟨rfl, rfl⟩ := powR_no HR.out (powQ_stop (k := k + 1) (by rw [HNx.out]) N (by omega))
        go_wp2_with fail
        go_ret2
        exact ⟨_, rfl, World.ownsRow_nil _ _ _ _, hB6⟩
      · go_wp2_with fail
        go_roundw
        case rel => exact ⟨r, k + 1, by omega, by go_num, by rw [HNx.out], by rw [HNx.out]; exact HO5.out, hB5⟩
        case measure => simp [intOf] <;> omega

set_option maxHeartbeats 1600000 in
theorem sPowerOfMap_is (f : List Pt) (vf : Value) (n : Int) (m : List Pt) (t : Bool) (hl : powerQ f n = (m, t)) (w : World) (hf : RdP w vf f) (hn : f.length ≤ 1048576) :
    Calls Tryz.prog 19 #[vf, .int .i64 n] w (RetPB w m t) := by
  have HF := Lib.hid hf
  rcases hm : okMap f with _ | _
  · obtain ⟨rfl, rfl⟩ := powerQ_no hl (fun h => by rw [hm] at h; simp at h)
    have HM := Lib.hid hm
    clear hf hl hm
    go_enter Tryz.func19, Tryz.ntmps19
    go_wp2_with fail
    refine (imGood_is f _ false _ (HF.out.keep (by go_grown)) hn HM.out).mono ?_
    rintro e w1 ⟨rfl, hb⟩
    have hB : Below w.heap.size w w1 := nextX (by go_grown) hb
    clear hb
    go_wp2_with fail
    go_ret2
    exact ⟨_, rfl, World.ownsRow_nil _ _ _ _, hB⟩
  · have HM := Lib.hid hm
    by_cases h6 : 0 ≤ n ∧ n ≤ 6
    · obtain ⟨N, rfl⟩ : ∃ N : Nat, n = N := ⟨n.toNat, by omega⟩
      have hN : N ≤ 6 := by omega
      have HR := Lib.hid (powerQ_yes hl hm hN)
      clear hf hl hm
      go_enter Tryz.func19, Tryz.ntmps19
      go_wp2_with fail
      refine (imGood_is f _ true _ (HF.out.keep (by go_grown)) hn HM.out).mono ?_
      rintro e w1 ⟨rfl, hb⟩
      have hB : Below w.heap.size w w1 := nextX (by go_grown) hb
      clear hb
      go_wp2_with fail
      refine (l1In_yes N 0 6 h6.1 h6.2 _).mono ?_
      rintro e w2 ⟨rfl, rfl⟩
      go_wp2_with fail
      refine (coPower_is f _ N m t HR.out _ (HF.out.keep (nextX hB (by go_grown))) HM.out hN).mono ?_
      rintro e w3 ⟨r3, rfl, ow3, hb⟩
      have HO3 := Lib.hid (ow3.low (b := w.heap.size) hB.size)
      replace hB := nextX hB (nextX (by go_grown) hb)
      clear ow3 hb
      go_wp2_with fail
      go_ret2
      exact ⟨_, rfl, HO3.out, hB⟩
    · obtain ⟨rfl, rfl⟩ := powerQ_no hl (fun h => h6 h.2)
      clear hf hl hm
      go_enter Tryz.func19, Tryz.ntmps19
      go_wp2_with fail
      refine (imGood_is f _ true _ (HF.out.keep (by go_grown)) hn HM.out).mono ?_
      rintro e w1 ⟨rfl, hb⟩
      have hB : Below w.heap.size w w1 := nextX (by go_grown) hb
      clear hb
      go_wp2_with fail
      refine (l1In_no n 0 6 h6 _).mono ?_
      rintro e w2 ⟨rfl, rfl⟩
      go_wp2_with fail
      go_ret2
      exact ⟨_, rfl, World.ownsRow_nil _ _ _ _, hB⟩

end Go.Proofs.YtkeajfgcjmhmiaaGreat

namespace Go.Proofs.YtkeajfgcjmhmiaaGreat
open Go.RowKit

theorem atQ_of2 {ps : List Pt} {x : Q} {a b : Int} {t : Bool} (h : valQ ps x = ((a, b), t)) : ∃ c d, atQ ps x = (c, d, t) ∧ (t = true → c = a ∧ d = b) := by
  unfold atQ
  rw [h]
  cases t
  · exact ⟨0, 0, rfl, fun h => by cases h⟩
  · exact ⟨a, b, rfl, fun _ => ⟨rfl, rfl⟩⟩
end Go.Proofs.YtkeajfgcjmhmiaaGreat

namespace Go.Proofs.YtkeajfgcjmhmiaaGreat
open Go.RowKit

/-- A part of a list. -/
def partQ (l : List Q) (i n : Nat) : List Q := (l.drop i).take n
theorem partQ_len {l : List Q} {i n : Nat} (h : i + n ≤ l.length) : (partQ l i n).length = n := by unfold partQ; rw [List.length_take, List.length_drop]; omega
theorem partQ_get {l : List Q} {i n j : Nat} {q : Q} (h : (partQ l i n)[j]? = some q) : l[i + j]? = some q ∧ j < n := by
  unfold partQ at h
  rw [List.getElem?_take] at h
  split at h
  · rename_i hj; rw [List.getElem?_drop] at h; exact ⟨h, hj⟩
  · cases h
theorem RdQ.part {w : World} {g o n c : Nat} {l : List Q} (h : RdQ w (.slice (some ⟨g, o, none⟩) n c) l) (i m : Nat) (hi : i + m ≤ n) : RdQ w (.slice (some ⟨g, o + i * 2, none⟩) m (c - i)) (partQ l i m) := by
  obtain ⟨A', c', he, h1, h2, h3⟩ := h
  simp only [Value.slice.injEq] at he
  obtain ⟨rfl, rfl, rfl⟩ := he
  have hl := partQ_len (l := l) (i := i) (n := m) hi
  refine ⟨_, c - i, by rw [hl], by rw [hl]; omega, by omega, fun hn => ?_⟩
  obtain ⟨g', o', he, hg, hc⟩ := h3 (by rintro rfl; apply hn; unfold partQ; simp)
  simp only [Option.some.injEq, Addr.mk.injEq, and_true] at he
  obtain ⟨rfl, rfl⟩ := he
  refine ⟨g, o + i * 2, rfl, hg, fun j q hq => ?_⟩
  obtain ⟨hq1, -⟩ := partQ_get hq
  obtain ⟨d0, d1⟩ := hc _ _ hq1
  rw [show o + (i + j) * 2 = o + i * 2 + j * 2 from by omega] at d0 d1
  exact ⟨d0, d1⟩

end Go.Proofs.YtkeajfgcjmhmiaaGreat

namespace Go.Proofs.YtkeajfgcjmhmiaaGreat
open Go.RowKit

open Go.ChangeShapes Go.WideShapes Go.ChangeAt Go.Joins in
def badU (q : Q) : Bool := !unitQ q.1 q.2
def IndexEnd (qs : List Q) (w : World) (e : Ending) (w' : World) : Prop := ∃ j : Int, e = .returned (.int .i64 j) ∧ decide (0 ≤ j) = qs.any badU ∧ Below w.heap.size w w'
def RelU (qs : List Q) (w : World) (i : Value) (wr : World) : Prop := ∃ k : Nat, k ≤ qs.length ∧ i = .int .i64 k ∧ (∀ i q, i < k → qs[i]? = some q → badU q = false) ∧ Below w.heap.size w wr

set_option maxHeartbeats 400000 in
theorem unitF (n d : Int) (w : World) :
    Calls Tryz.prog 159 #[.agg #[.int .i64 n, .int .i64 d]] w fun e w' => e = .returned (.bool (badU (n, d))) ∧ Below w.heap.size w w' := by
  go_enter Tryz.func159, Tryz.ntmps159
  go_wp2_with fail
  refine (isUnit_any n d _).mono ?_
  rintro e w1 ⟨rfl, hb⟩
  have hX : Below w.heap.size w w1 := nextX (by go_grown) hb
  have HX := Lib.hid (show (!unitQ n d) = badU (n, d) from rfl)
  generalize unitQ n d = x at *
  go_wp2_with fail
  go_ret
  exact ⟨ret_bool HX.out, hX⟩

set_option maxHeartbeats 800000 in
theorem indexUnits (qs : List Q) (v : Value) (w : World) (hv : RdQ w v qs) :
    Calls Tryz.prog 183 #[v, .func (.func 159) #[] #[]] w (IndexEnd qs w) := by
  obtain ⟨A, c, rfl, hl, hm, hcell⟩ := hv
  unfold maxLen at hm
  have HC := Lib.hid hcell
  clear hcell
  go_enter Tryz.func183, Tryz.ntmps183
  go_wp2_with fail
  go_loopw [8] (fun i wr => RelU qs w i wr) (fun i _ => qs.length - (intOf i).toNat)
  case atStart => exact ⟨0, Nat.zero_le _, rfl, (fun i q h => by omega), Below.refl _ _⟩
  case round =>
    obtain ⟨k, hk, rfl, hno, hb⟩ := hrel
    have HN := Lib.hid hno
    clear hno
    by_cases hlt : k < qs.length
    · obtain ⟨g, o, rfl, hg, hc⟩ := HC.out (by intro h; rw [h] at hlt; simp at hlt)
      have hq := List.getElem?_eq_getElem hlt
      generalize qs[k] = q at *
      obtain ⟨a1, a2⟩ := q
      obtain ⟨c0, c1⟩ := hc _ _ hq
      rw [← hb.cell (p := ⟨g, _, none⟩) hg] at c0 c1
      clear hc HC
      have HQ := Lib.hid hq
      clear hq
      rcases hbb : badU (a1, a2) with _ | _
      all_goals
        have HB := Lib.hid hbb
        clear hbb
        go_wp2_with fail
        refine (unitF a1 a2 _).mono ?_
        rintro e w1 ⟨he, hb1⟩
        rw [HB.out] at he
        subst he
        have hB := nextX hb hb1
        clear hb1 c0 c1
        go_wp2_with fail
      · go_roundw
        case rel =>
          refine ⟨k + 1, by omega, by go_num, ?_, hB⟩
          intro i q hi hq
          by_cases e : i = k
          · subst e; rw [HQ.out] at hq; cases hq; exact HB.out
          · exact HN.out i q (by omega) hq
        case measure => simp [intOf]; omega
      · have HI := Lib.hid (show qs.any badU = true from List.any_eq_true.2 ⟨_, List.mem_of_getElem? HQ.out, HB.out⟩)
        go_ret
        exact ⟨_, rfl, by rw [HI.out]; simp, hB⟩
    · obtain rfl : k = qs.length := by omega
      have HI := Lib.hid (show qs.any badU = false by
        rw [List.any_eq_false]
        intro q hq
        obtain ⟨i, hi, rfl⟩ := List.getElem_of_mem hq
        rw [HN.out i _ hi (List.getElem?_eq_getElem hi)]; decide)
      go_wp2_with fail
      go_ret
      exact ⟨_, rfl, by rw [HI.out]; decide, hb⟩

theorem any_bad_units (qs : List Q) : (!qs.any badU) = qs.all (fun q => unitQ q.1 q.2) := by
  induction qs with
  | nil => rfl
  | cons q r ih => rw [List.any_cons, List.all_cons, ← ih, badU, Bool.not_or, Bool.not_not]

theorem areUnits_is (qs : List Q) (v : Value) (t : Bool) (w : World) (hv : RdQ w v qs) (ht : qs.all (fun q => unitQ q.1 q.2) = t) :
    Calls Tryz.prog 99 #[v] w fun e w' => e = .returned (.bool t) ∧ Below w.heap.size w w' := by
  have HV := Lib.hid hv
  have HT := Lib.hid ((any_bad_units qs).trans ht)
  clear hv ht
  have h1 : Calls Tryz.prog 158 #[v, .func (.func 159) #[] #[]] w fun e w' => e = .returned (.bool (qs.any badU)) ∧ Below w.heap.size w w' := by
    go_enter Tryz.func158, Tryz.ntmps158
    go_wp2_with fail
    refine (indexUnits qs v _ HV.out).mono ?_
    rintro e w1 ⟨j, rfl, hj, hb⟩
    have HJ := Lib.hid hj
    clear hj
    go_wp2_with fail
    go_ret
    exact ⟨ret_bool HJ.out, hb⟩
  go_enter Tryz.func99, Tryz.ntmps99
  go_wp2_with fail
  refine h1.mono ?_
  rintro e w1 ⟨rfl, hb⟩
  generalize qs.any badU = x at *
  clear h1
  go_wp2_with fail
  go_ret
  exact ⟨ret_bool HT.out, hb⟩

end Go.Proofs.YtkeajfgcjmhmiaaGreat

namespace Go.Proofs.YtkeajfgcjmhmiaaGreat
open Go.RowKit

theorem setQ_pos {cs : List Q} (h : 0 < cs.length) : 0 < (setQ cs).length := by
  obtain ⟨x, hx⟩ : ∃ x, cs[0]? = some x := ⟨_, List.getElem?_eq_getElem h⟩
  exact List.length_pos_of_mem ((setQ_mem cs x).2 (List.mem_of_getElem? hx))

end Go.Proofs.YtkeajfgcjmhmiaaGreat
