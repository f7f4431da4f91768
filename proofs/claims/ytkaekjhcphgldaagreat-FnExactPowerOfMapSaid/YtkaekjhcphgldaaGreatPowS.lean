/- PowerOfMap of both. -/
import Derived.Test.YtkaekjhcphgldaaGreatComI
import Derived.Test.YtkaekjhcphgldaaGreatComS
import Derived.Test.YtkaekjhcphgldaaGreatSimple
namespace Go.Proofs.YtkaekjhcphgldaaGreat
open Go.RowKit

theorem OwP.two (w : World) (base : Nat) (e : TypeId) (a b c d a' b' c' d' : Int) (hb : base ≤ w.heap.size) : OwP base e (w.alloc (.cells #[.int .i64 a, .int .i64 b, .int .i64 c, .int .i64 d, .int .i64 a', .int .i64 b', .int .i64 c', .int .i64 d'] e)) (.slice (some ⟨w.heap.size, 0, none⟩) 2 2) [((a, b), c, d), ((a', b'), c', d')] :=
  ⟨rfl, .inr ⟨w.heap.size, 2, _, rfl, hb, heap_alloc_new w _, Nat.le_refl _, by simp [maxLen], rfl, by simp [rowP]⟩⟩
theorem powQ_next {f : List Pt} {k : Nat} (h : (powQ f k).2 = true) : powQ f (k + 1) = comQ f (powQ f k).1 := by
  conv => lhs; unfold powQ
  rw [if_pos h]
theorem powQ_stop {f : List Pt} {k : Nat} (h : (powQ f k).2 = false) : ∀ n, k ≤ n → (powQ f n).2 = false := by
  intro n hn
  induction hn with
  | refl => exact h
  | step _ ih => unfold powQ; rw [if_neg (by rw [ih]; simp)]
def powR (f : List Pt) (n : Nat) : List Pt × Bool := if (powQ f n).2 = true then powQ f n else ([], false)
theorem powR_no {f : List Pt} {n : Nat} {m : List Pt} {t : Bool} (hl : powR f n = (m, t)) (h : (powQ f n).2 = false) : [] = m ∧ false = t := by
  unfold powR at hl; rw [if_neg (by rw [h]; simp)] at hl; exact Prod.mk.inj hl
theorem powR_yes {f : List Pt} {n : Nat} {m : List Pt} {t : Bool} (hl : powR f n = (m, t)) (h : (powQ f n).2 = true) : (powQ f n).1 = m ∧ true = t := by
  unfold powR at hl; rw [if_pos h] at hl; exact ⟨by rw [hl], by rw [← h, hl]⟩
theorem powerQ_no {f : List Pt} {n : Int} {m : List Pt} {t : Bool} (hl : powerQ f n = (m, t)) (h : ¬ (okMap f = true ∧ 0 ≤ n ∧ n ≤ 6)) : [] = m ∧ false = t := by
  unfold powerQ at hl; rw [if_neg h] at hl; exact Prod.mk.inj hl
theorem powerQ_yes {f : List Pt} {n : Nat} {m : List Pt} {t : Bool} (hl : powerQ f n = (m, t)) (h : okMap f = true) (h6 : n ≤ 6) : powR f n = (m, t) := by
  unfold powerQ at hl; rw [if_pos ⟨h, by omega, by omega⟩] at hl; exact hl
theorem powR_len {f : List Pt} {n : Nat} : (powR f n).1.length ≤ 1048576 := by
  unfold powR
  split
  · rename_i h
    have := okMap_len (powQ_map f n h)
    omega
  · simp
theorem powerQ_len {f : List Pt} {n : Int} {m : List Pt} {t : Bool} (h : powerQ f n = (m, t)) : m.length ≤ 1048576 := by
  unfold powerQ at h
  split at h
  · have := powR_len (f := f) (n := n.toNat)
    unfold powR at this
    rw [h] at this
    exact this
  · obtain ⟨rfl, -⟩ := Prod.mk.inj h; simp

set_option maxHeartbeats 800000 in
theorem identityMap_is (w : World) : Calls Tryz.prog 60 #[] w (RetPs w sameL) := by
  go_enter Tryz.func60, Tryz.ntmps60
  go_wp2_with fail
  refine (zero_any _).mono ?_
  rintro e w1 ⟨rfl, hb⟩
  have hB : Below w.heap.size w w1 := nextX (by go_grown) hb
  clear hb
  go_wp2_with fail
  refine (zero_any _).mono ?_
  rintro e w2 ⟨rfl, hb⟩
  replace hB := nextX hB (nextX (by go_grown) hb)
  clear hb
  go_wp2_with fail
  refine (oneRat_any _).mono ?_
  rintro e w3 ⟨rfl, hb⟩
  replace hB := nextX hB (nextX (by go_grown) hb)
  clear hb
  go_wp2_with fail
  refine (oneRat_any _).mono ?_
  rintro e w4 ⟨rfl, hb⟩
  replace hB := nextX hB (nextX (by go_grown) hb)
  have hz := hB.size
  clear hb
  go_wp2_with fail
  go_ret
  exact ⟨_, rfl, OwP.two w4 _ _ _ _ _ _ _ _ _ _ hz, nextX hB (by go_grown)⟩

set_option maxHeartbeats 800000 in
theorem coSame_is (w : World) : Calls Tryz.prog 90 #[] w (RetPs w sameL) := by
  go_enter Tryz.func90, Tryz.ntmps90
  go_wp2_with fail
  refine (raInt_any 0 _).mono ?_
  rintro e w1 ⟨rfl, hb⟩
  have hB : Below w.heap.size w w1 := nextX (by go_grown) hb
  clear hb
  go_wp2_with fail
  refine (raInt_any 0 _).mono ?_
  rintro e w2 ⟨rfl, hb⟩
  replace hB := nextX hB (nextX (by go_grown) hb)
  clear hb
  go_wp2_with fail
  refine (raInt_any 1 _).mono ?_
  rintro e w3 ⟨rfl, hb⟩
  replace hB := nextX hB (nextX (by go_grown) hb)
  clear hb
  go_wp2_with fail
  refine (raInt_any 1 _).mono ?_
  rintro e w4 ⟨rfl, hb⟩
  replace hB := nextX hB (nextX (by go_grown) hb)
  have hz := hB.size
  clear hb
  go_wp2_with fail
  go_ret
  exact ⟨_, rfl, OwP.two w4 _ _ _ _ _ _ _ _ _ _ hz, nextX hB (by go_grown)⟩

def RelPw (f : List Pt) (N h : Nat) (W0 : World) (out i : Value) (wr : World) : Prop :=
  ∃ k : Nat, k ≤ N ∧ i = .int .i64 k ∧ (powQ f k).2 = true ∧ OwP h 48 wr out (powQ f k).1 ∧ Below W0.heap.size W0 wr
def RelPv (f : List Pt) (N h : Nat) (W0 : World) (i out : Value) (wr : World) : Prop :=
  ∃ r k : Nat, r + k = N ∧ i = .int .i64 r ∧ (powQ f k).2 = true ∧ OwP h 48 wr out (powQ f k).1 ∧ Below W0.heap.size W0 wr

set_option maxHeartbeats 3200000 in
theorem iPowerOfMap_is (f : List Pt) (vf : Value) (n : Int) (m : List Pt) (t : Bool) (hl : powerQ f n = (m, t)) (w : World) (hf : RdP w vf f) (hn : f.length ≤ 1048576) :
    Calls Tryz.prog 23 #[vf, .int .i64 n] w (RetPB w m t) := by
  have HF := Lib.hid hf
  have HL := Lib.hid hl
  rcases hm : okMap f with _ | _
  · obtain ⟨rfl, rfl⟩ := powerQ_no hl (fun h => by rw [hm] at h; simp at h)
    have HM := Lib.hid hm
    clear hf hl hm
    go_enter Tryz.func23, Tryz.ntmps23
    go_wp2_with fail
    refine (isMap_is f _ false _ (HF.out.keep (by go_grown)) hn HM.out).mono ?_
    rintro e w1 ⟨rfl, hb⟩
    have hB : Below w.heap.size w w1 := nextX (by go_grown) hb
    clear hb
    go_wp2_with fail
    go_ret2
    exact ⟨_, rfl, World.ownsRow_nil _ _ _ _, hB⟩
  · have HM := Lib.hid hm
    by_cases h6 : 0 ≤ n ∧ n ≤ 6
    · obtain ⟨N, rfl⟩ : ∃ N : Nat, n = N := ⟨n.toNat, by omega⟩
      have hN : N ≤ 6 := by omega
      have HR := Lib.hid (powerQ_yes hl hm hN)
      clear hf hl hm
      go_enter Tryz.func23, Tryz.ntmps23
      go_wp2_with fail
      refine (isMap_is f _ true _ (HF.out.keep (by go_grown)) hn HM.out).mono ?_
      rintro e w1 ⟨rfl, hb⟩
      have hB : Below w.heap.size w w1 := nextX (by go_grown) hb
      clear hb
      go_wp2_with fail
      refine (within_yes N 0 6 h6.1 h6.2 _).mono ?_
      rintro e w2 ⟨rfl, rfl⟩
      go_wp2_with fail
      refine (identityMap_is _).mono ?_
      rintro e w3 ⟨r3, rfl, ow3, hb⟩
      have HO3 := Lib.hid (show OwP w.heap.size 48 w3 r3 (powQ f 0).1 from ow3.low hB.size)
      replace hB := nextX hB (nextX (by go_grown) hb)
      clear ow3 hb
      go_wp2_with fail
      go_name_world W0 hW
      have hX : Below w3.heap.size w3 W0 := by rw [← hW]; go_grown
      have HO0 := Lib.hid (HO3.out.keep hX)
      replace hB := nextX hB hX
      clear hW hX HO3
      go_loopw [6, 18] (fun out i wr => RelPw f N w.heap.size W0 out i wr) (fun _ i _ => N - (intOf i).toNat)
      case atStart => exact ⟨0, Nat.zero_le _, rfl, rfl, HO0.out, Below.refl _ _⟩
      case round =>
        obtain ⟨k, hk2, rfl, hp, hown, hb⟩ := hrel
        have HO := Lib.hid hown
        have HP := Lib.hid hp
        have hBr := nextW hB hb
        have hzr : w.heap.size ≤ wr.heap.size := hBr.size
        clear hown hp
        by_cases hlt : k < N
        · obtain ⟨⟨l, tt⟩, hq⟩ : ∃ r, comQ f (powQ f k).1 = r := ⟨_, rfl⟩
          have HQ := Lib.hid hq
          have HNx := Lib.hid ((powQ_next HP.out).trans hq)
          have HMk := Lib.hid (powQ_map f k HP.out)
          have b0 : (0 : Int) ≤ (k : Int) := by omega
          have b1 : (k : Int) < (N : Int) := by omega
          have v2 : IntKind.i64.wrap ((k : Int) + 1) = (k : Int) + 1 := IntWalk.i64_in _ (by omega)
          have v3 : IntKind.i64.wrap (k : Int) = (k : Int) := IntWalk.i64_in _ (by omega)
          clear hq
          go_wp2_with fail
          refine (composed_is f _ _ _ l tt HQ.out _ (HF.out.keep (nextX hBr (by go_grown))) (HO.out.read.keep (by go_grown)) HM.out HMk.out).mono ?_
          rintro e w5 ⟨r5, rfl, ow5, hb5⟩
          have hX5 : Below wr.heap.size wr w5 := nextX (by go_grown) hb5
          have HO5 := Lib.hid (ow5.low (b := w.heap.size) (by go_size))
          have hB5 := nextX hb hX5
          have hB6 := nextX hBr hX5
          clear ow5 hb5 hX5 HO
          rcases tt with _ | _
          · obtain ⟨rfl, rfl⟩ := powR_no HR.out (powQ_stop (k := k + 1) (by rw [HNx.out]) N hlt)
            go_wp2_with fail
            go_ret2
            exact ⟨_, rfl, World.ownsRow_nil _ _ _ _, hB6⟩
          · go_wp2_with fail
            go_roundw
            case rel => exact ⟨k + 1, by omega, by go_num, by rw [HNx.out], by rw [HNx.out]; exact HO5.out, hB5⟩
            case measure => simp [intOf] <;> omega
        · obtain rfl : k = N := by omega
          obtain ⟨rfl, rfl⟩ := powR_yes HR.out HP.out
          go_wp2_with fail
          go_ret2
          exact ⟨_, rfl, HO.out, hBr⟩
    · obtain ⟨rfl, rfl⟩ := powerQ_no hl (fun h => h6 h.2)
      clear hf hl hm
      go_enter Tryz.func23, Tryz.ntmps23
      go_wp2_with fail
      refine (isMap_is f _ true _ (HF.out.keep (by go_grown)) hn HM.out).mono ?_
      rintro e w1 ⟨rfl, hb⟩
      have hB : Below w.heap.size w w1 := nextX (by go_grown) hb
      clear hb
      go_wp2_with fail
      refine (within_no n 0 6 h6 _).mono ?_
      rintro e w2 ⟨rfl, rfl⟩
      go_wp2_with fail
      go_ret2
      exact ⟨_, rfl, World.ownsRow_nil _ _ _ _, hB⟩

set_option maxHeartbeats 3200000 in
theorem coPower_is (f : List Pt) (vf : Value) (N : Nat) (m : List Pt) (t : Bool) (hl : powR f N = (m, t)) (w : World) (hf : RdP w vf f) (hm : okMap f = true) (hN : N ≤ 6) :
    Calls Tryz.prog 58 #[vf, .int .i64 N] w (RetPB w m t) := by
  have HF := Lib.hid hf
  have HR := Lib.hid hl
  have HM := Lib.hid hm
  clear hf hl hm
  go_enter Tryz.func58, Tryz.ntmps58
  go_wp2_with fail
  refine (coSame_is _).mono ?_
  rintro e w3 ⟨r3, rfl, ow3, hb⟩
  have HO3 := Lib.hid (show OwP w.heap.size 48 w3 r3 (powQ f 0).1 from ow3)
  have hB : Below w.heap.size w w3 := nextX (by go_grown) hb
  clear ow3 hb
  go_wp2_with fail
  go_name_world W0 hW
  have hX : Below w3.heap.size w3 W0 := by rw [← hW]; go_grown
  have HO0 := Lib.hid (HO3.out.keep hX)
  replace hB := nextX hB hX
  clear hW hX HO3
  go_loopw [1, 6] (fun i out wr => RelPv f N w.heap.size W0 i out wr) (fun i _ _ => (intOf i).toNat)
  case atStart => exact ⟨N, 0, rfl, rfl, rfl, HO0.out, Below.refl _ _⟩
  case round =>
    obtain ⟨r, k, hk2, rfl, hp, hown, hb⟩ := hrel
    have HO := Lib.hid hown
    have HP := Lib.hid hp
    have hBr := nextW hB hb
    have hzr : w.heap.size ≤ wr.heap.size := hBr.size
    clear hown hp
    rcases r with _ | r
    · obtain rfl : k = N := by omega
      obtain ⟨rfl, rfl⟩ := powR_yes HR.out HP.out
      go_wp2_with fail
      go_ret2
      exact ⟨_, rfl, HO.out, hBr⟩
    · obtain ⟨⟨l, tt⟩, hq⟩ : ∃ r, comQ f (powQ f k).1 = r := ⟨_, rfl⟩
      have HQ := Lib.hid hq
      have HNx := Lib.hid ((powQ_next HP.out).trans hq)
      have HMk := Lib.hid (powQ_map f k HP.out)
      have b0 : (0 : Int) < (r : Int) + 1 := by omega
      have v2 : IntKind.i64.wrap ((r : Int) + 1 - 1) = (r : Int) := IntWalk.i64_in _ (by omega) |>.trans (by omega)
      have v3 : IntKind.i64.wrap (r : Int) = (r : Int) := IntWalk.i64_in _ (by omega)
      have v4 : (r : Int) + 1 - 1 = r := by omega
      rw [show (((r + 1 : Nat)) : Int) = (r : Int) + 1 from by omega]
      clear hq
      go_wp2_with fail
      refine (coCompose_is f _ _ _ l tt HQ.out _ (HF.out.keep (nextX hBr (by go_grown))) (HO.out.read.keep (by go_grown)) HM.out HMk.out).mono ?_
      rintro e w5 ⟨r5, rfl, ow5, hb5⟩
      have hX5 : Below wr.heap.size wr w5 := nextX (by go_grown) hb5
      have HO5 := Lib.hid (ow5.low (b := w.heap.size) (by go_size))
      have hB5 := nextX hb hX5
      have hB6 := nextX hBr hX5
      clear ow5 hb5 hX5 HO
      rcases tt with _ | _
      · obtain ⟨rfl, rfl⟩ := powR_no HR.out (powQ_stop (k := k + 1) (by rw [HNx.out]) N (by omega))
        go_wp2_with fail
        go_ret2
        exact ⟨_, rfl, World.ownsRow_nil _ _ _ _, hB6⟩
      · go_wp2_with fail
        go_roundw
        case rel => exact ⟨r, k + 1, by omega, by go_num, by rw [HNx.out], by rw [HNx.out]; exact HO5.out, hB5⟩
        case measure => simp [intOf] <;> omega

set_option maxHeartbeats 1600000 in
theorem sPowerOfMap_is (f : List Pt) (vf : Value) (n : Int) (m : List Pt) (t : Bool) (hl : powerQ f n = (m, t)) (w : World) (hf : RdP w vf f) (hn : f.length ≤ 1048576) :
    Calls Tryz.prog 22 #[vf, .int .i64 n] w (RetPB w m t) := by
  have HF := Lib.hid hf
  rcases hm : okMap f with _ | _
  · obtain ⟨rfl, rfl⟩ := powerQ_no hl (fun h => by rw [hm] at h; simp at h)
    have HM := Lib.hid hm
    clear hf hl hm
    go_enter Tryz.func22, Tryz.ntmps22
    go_wp2_with fail
    refine (imGood_is f _ false _ (HF.out.keep (by go_grown)) hn HM.out).mono ?_
    rintro e w1 ⟨rfl, hb⟩
    have hB : Below w.heap.size w w1 := nextX (by go_grown) hb
    clear hb
    go_wp2_with fail
    go_ret2
    exact ⟨_, rfl, World.ownsRow_nil _ _ _ _, hB⟩
  · have HM := Lib.hid hm
    by_cases h6 : 0 ≤ n ∧ n ≤ 6
    · obtain ⟨N, rfl⟩ : ∃ N : Nat, n = N := ⟨n.toNat, by omega⟩
      have hN : N ≤ 6 := by omega
      have HR := Lib.hid (powerQ_yes hl hm hN)
      clear hf hl hm
      go_enter Tryz.func22, Tryz.ntmps22
      go_wp2_with fail
      refine (imGood_is f _ true _ (HF.out.keep (by go_grown)) hn HM.out).mono ?_
      rintro e w1 ⟨rfl, hb⟩
      have hB : Below w.heap.size w w1 := nextX (by go_grown) hb
      clear hb
      go_wp2_with fail
      refine (l1In_yes N 0 6 h6.1 h6.2 _).mono ?_
      rintro e w2 ⟨rfl, rfl⟩
      go_wp2_with fail
      refine (coPower_is f _ N m t HR.out _ (HF.out.keep (nextX hB (by go_grown))) HM.out hN).mono ?_
      rintro e w3 ⟨r3, rfl, ow3, hb⟩
      have HO3 := Lib.hid (ow3.low (b := w.heap.size) hB.size)
      replace hB := nextX hB (nextX (by go_grown) hb)
      clear ow3 hb
      go_wp2_with fail
      go_ret2
      exact ⟨_, rfl, HO3.out, hB⟩
    · obtain ⟨rfl, rfl⟩ := powerQ_no hl (fun h => h6 h.2)
      clear hf hl hm
      go_enter Tryz.func22, Tryz.ntmps22
      go_wp2_with fail
      refine (imGood_is f _ true _ (HF.out.keep (by go_grown)) hn HM.out).mono ?_
      rintro e w1 ⟨rfl, hb⟩
      have hB : Below w.heap.size w w1 := nextX (by go_grown) hb
      clear hb
      go_wp2_with fail
      refine (l1In_no n 0 6 h6 _).mono ?_
      rintro e w2 ⟨rfl, rfl⟩
      go_wp2_with fail
      go_ret2
      exact ⟨_, rfl, World.ownsRow_nil _ _ _ _, hB⟩

end Go.Proofs.YtkaekjhcphgldaaGreat
