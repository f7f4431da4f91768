/- slices.Backward over points: what its rounds are handed. -/
import Derived.Test.YtkeajfgcjmhmiaaGreatDoorM37
import Derived.Test.YtkeajfgcjmhmiaaGreatDoorM39
namespace Go.Proofs.YtkeajfgcjmhmiaaGreatDoor
open Go.RowKit Go.Shelf

attribute [local go_sem] Oper.semAt_some

/-- Below n₀ all is as it was but block O. -/
structure KpO (O n₀ : Nat) (w w' : World) : Prop where
  os : w'.os = w.os
  tape : w'.tape = w.tape
  output : w'.output = w.output
  size : w.heap.size ≤ w'.heap.size
  block : ∀ k, k < n₀ → k ≠ O → w'.heap[k]? = w.heap[k]?
theorem KpO.refl (O n₀ : Nat) (w : World) : KpO O n₀ w w := ⟨rfl, rfl, rfl, Nat.le_refl _, fun _ _ _ => rfl⟩
theorem KpO.t {O n₀ : Nat} {A B C : World} (x : KpO O n₀ A B) (y : KpO O n₀ B C) : KpO O n₀ A C :=
  ⟨y.os.trans x.os, y.tape.trans x.tape, y.output.trans x.output, Nat.le_trans x.size y.size, fun k h1 h2 => (y.block k h1 h2).trans (x.block k h1 h2)⟩
theorem KpO.of_below {O n₀ : Nat} {w w' : World} (h : Below n₀ w w') : KpO O n₀ w w' := ⟨h.os, h.tape, h.output, h.size, fun k hk _ => h.block k hk⟩
theorem KpO.cell {O n₀ b o : Nat} {w w' : World} {v : Value} (x : KpO O n₀ w w') (hb : b < n₀) (hn : b ≠ O) (hc : w.cell? ⟨b, o, none⟩ = some v) : w'.cell? ⟨b, o, none⟩ = some v :=
  (World.cell?_of_block (w := w) (x.block b hb hn)).trans hc
theorem KpO.b {O n₀ : Nat} {w : World} (hn : n₀ ≤ w.heap.size) (W : World) (l : Nat) (o o' : Obj) (hl : w.heap.size ≤ l) (h : W.heap[l]? = some o) (h1 : o.isCells = false) (h2 : o.isWalk = false) : KpO O n₀ W (W.putObj l o') :=
  KpO.of_below (belowK_b hn W l o o' hl h h1 h2)

/-- A point within the bounds of a map's. -/
def bdB (p : Pt) : Bool := decide (0 ≤ p.1.1 ∧ p.1.1 ≤ p.1.2 ∧ p.1.2 ≤ 1000000000) && decide (0 ≤ p.2.1 ∧ p.2.1 ≤ p.2.2 ∧ p.2.2 ≤ 1000000000)
abbrev BP := { x : Int × Pt // bdB x.2 = true }
def encP (x : BP) : Array Value := #[.int .i64 x.1.1, .agg #[.int .i64 x.1.2.1.1, .int .i64 x.1.2.1.2, .int .i64 x.1.2.2.1, .int .i64 x.1.2.2.2]]
def bk (ps : List Pt) (j : Nat) : BP :=
  if h : bdB (ps[ps.length - 1 - j]?.getD ((0, 0), (0, 0))) = true then ⟨((ps.length : Int) - 1 - (j : Int), ps[ps.length - 1 - j]?.getD ((0, 0), (0, 0))), h⟩ else ⟨(0, ((0, 0), (0, 0))), by decide⟩
def bkL (ps : List Pt) (k : Nat) : List BP := (List.range k).map (bk ps)
theorem bkL_succ (ps : List Pt) (k : Nat) : bkL ps (k + 1) = bkL ps k ++ [bk ps k] := by simp [bkL, List.range_succ]
theorem bkL_len (ps : List Pt) (k : Nat) : (bkL ps k).length = k := by simp [bkL]
theorem bk_at {ps : List Pt} {j i : Nat} {p : Pt} (hi : ps.length - 1 - j = i) (hp : ps[i]? = some p) (hb : bdB p = true) : (bk ps j).1 = ((ps.length : Int) - 1 - (j : Int), p) := by
  unfold bk
  rw [dif_pos (by rw [hi, hp]; exact hb)]
  show ((ps.length : Int) - 1 - (j : Int), ps[ps.length - 1 - j]?.getD ((0, 0), (0, 0))) = _
  rw [hi, hp]; rfl
theorem bdB_map {ps : List Pt} (hm : okMap ps = true) : ∀ (i : Nat) (p : Pt), ps[i]? = some p → bdB p = true := fun i p hp => by
  have h := okMap_coord hm hp
  have h1 := unitQ_bd (coordQ_unit h.1)
  have h2 := unitQ_bd (coordQ_unit h.2)
  unfold bdB
  rw [decide_eq_true ⟨h1.1, h1.2.1, h1.2.2.2⟩, decide_eq_true ⟨h2.1, h2.2.1, h2.2.2.2⟩]; rfl
theorem bkL_all {ps : List Pt} (hm : okMap ps = true) : (bkL ps ps.length).map (fun x => reflP x.1.2) = reflectQ ps := by
  apply List.ext_getElem?
  intro k
  by_cases hk : k < ps.length
  · have hp := List.getElem?_eq_getElem (show ps.length - 1 - k < ps.length by omega)
    rw [reflectQ_get hk hp]
    unfold bkL
    rw [List.map_map, List.getElem?_map, List.getElem?_range hk]
    simp only [Option.map_some, Function.comp]
    rw [bk_at rfl hp (bdB_map hm _ _ hp)]
  · rw [List.getElem?_eq_none (by simp [bkL_len]; omega), List.getElem?_eq_none (by rw [reflectQ_len]; omega)]

set_option maxRecDepth 100000 in
set_option maxHeartbeats 2000000 in
theorem back1_in (n l Bs n₀ O b off cap : Nat) (ps : List Pt) (hbd : ∀ (i : Nat) (p : Pt), ps[i]? = some p → bdB p = true) (hn : 1 ≤ n) (hlen : 1 ≤ ps.length ∧ ps.length ≤ 100000) (hcap : ps.length ≤ cap ∧ cap ≤ maxLen) (hb : b < n₀ ∧ b ≠ O) (hs : Bs < n₀ ∧ Bs ≠ O) (J Jx : List BP → World → Prop)
    (hY : ∀ pre x W, J pre W → pre.length < ps.length → YieldAt Fence.wide (n - 1) Tryz.prog l (encP x) W fun e W' =>
      (e = .returned (.bool true) ∧ J (pre ++ [x]) W' ∧ KpO O n₀ W W') ∨ (e = .returned (.bool false) ∧ Jx (pre ++ [x]) W'))
    (W : World) (hBs : W.cell? ⟨Bs, 0, none⟩ = some (.slice (some ⟨b, off, none⟩) ps.length cap))
    (hc : ∀ i p, ps[i]? = some p → W.cell? ⟨b, off + i * 4, none⟩ = some (.int .i64 p.1.1) ∧ W.cell? ⟨b, off + i * 4 + 1, none⟩ = some (.int .i64 p.1.2) ∧ W.cell? ⟨b, off + i * 4 + 2, none⟩ = some (.int .i64 p.2.1) ∧ W.cell? ⟨b, off + i * 4 + 3, none⟩ = some (.int .i64 p.2.2)) (h0 : J [] W) :
    CallsIn Fence.wide n Tryz.prog 60 #[.func (.yield l) #[] #[], .pointer (some ⟨Bs, 0, none⟩)] W fun e W' => (∃ v, e = .returned v) ∧
      ((∃ ys, ys = bkL ps ps.length ∧ J ys W') ∨ (∃ pre, True ∧ Jx pre W')) := by
  have HC := Lib.hid hc
  have v0 : IntKind.i64.wrap ((ps.length : Int) - 1) = (ps.length : Int) - 1 := IntWalk.i64_in _ (by omega)
  obtain ⟨hcap1, hcap2⟩ := hcap
  unfold maxLen at hcap2
  clear hc
  refine callsIn_of_wp Tryz.func60 rfl trivial ?_ rfl
  simp only [Tryz.ntmps60, List.size_toArray, List.length_cons, List.length_nil, Nat.reduceAdd, Nat.reduceSub, Array.replicate_succ, Array.replicate_zero, List.push_toArray, List.append_toArray, List.nil_append, List.cons_append]
  gi_wp2
  gi_loopw [3] (fun i wr => ∃ k : Nat, k ≤ ps.length ∧ i = .int .i64 ((ps.length : Int) - 1 - (k : Int)) ∧ J (bkL ps k) wr ∧ KpO O n₀ W wr)
    (fun i _ => (intOf i + 1).toNat)
  case atStart => exact ⟨0, Nat.zero_le _, by simp, h0, KpO.refl _ _ _⟩
  case round =>
    obtain ⟨k, hk, rfl, hJs, hnx⟩ := hrel
    by_cases hlt : k < ps.length
    · obtain ⟨j, hj⟩ : ∃ j : Nat, ps.length - 1 - k = j := ⟨_, rfl⟩
      have hji : (ps.length : Int) - 1 - (k : Int) = (j : Int) := by omega
      have hp := List.getElem?_eq_getElem (show j < ps.length by omega)
      generalize ps[j] = p at *
      obtain ⟨c0, c1, c2, c3⟩ := HC.out j _ hp
      obtain ⟨⟨p1, p2⟩, p3, p4⟩ := p
      have hbk : (bk ps k).1 = ((j : Int), ((p1, p2), p3, p4)) := by rw [bk_at hj hp (hbd _ _ hp), hji]
      simp only at c0 c1 c2 c3
      replace c0 := hnx.cell hb.1 hb.2 c0
      replace c1 := hnx.cell hb.1 hb.2 c1
      replace c2 := hnx.cell hb.1 hb.2 c2
      replace c3 := hnx.cell hb.1 hb.2 c3
      have cB := hnx.cell hs.1 hs.2 hBs
      obtain ⟨fn, tmps, assign, body, hy, hR⟩ := hY _ (bk ps k) wr hJs (by rw [bkL_len]; exact hlt)
      simp only [encP, hbk] at hy
      rw [hji]
      have b0 : (0 : Int) ≤ (j : Int) := by omega
      have b1 : (j : Int) < (ps.length : Int) := by omega
      have v2 : IntKind.i64.wrap ((j : Int) - 1) = (j : Int) - 1 := IntWalk.i64_in _ (by omega)
      gi_wp2
      refine hR.mono ?_
      rintro e W3 (⟨rfl, hJ3, hk3⟩ | ⟨rfl, hJx3⟩)
      · gi_wp2
        go_roundw
        case rel => exact ⟨k + 1, by omega, by congr 1; omega, by rw [bkL_succ]; exact hJ3, hnx.t hk3⟩
        case measure => simp [intOf] <;> omega
      · gi_wp2
        refine bodyPost_ret (results_none rfl _ _ _) rfl ?_
        exact ⟨⟨_, rfl⟩, .inr ⟨_, trivial, hJx3⟩⟩
    · obtain rfl : k = ps.length := by omega
      have e0 : (ps.length : Int) - 1 - (ps.length : Int) = -1 := by omega
      rw [e0]
      gi_wp2
      go_end0
      exact ⟨⟨_, rfl⟩, .inl ⟨_, rfl, hJs⟩⟩

/-- slices.Backward: the slice is boxed; the function value captures the box. -/
theorem back_in (n : Nat) (a : Option Addr) (len cap : Nat) (w : World) :
    CallsIn Fence.wide n Tryz.prog 29 #[.slice a len cap] w fun e w' => e = .returned (.func (.func 60) #[] #[.pointer (some ⟨w.heap.size, 0, none⟩)]) ∧ w' = w.alloc (.cells #[.slice a len cap] 23) := by
  refine callsIn_of_wp Tryz.func29 rfl trivial ?_ rfl
  simp only [Tryz.ntmps29, List.size_toArray, List.length_cons, List.length_nil, Nat.reduceAdd, Nat.reduceSub, Array.replicate_succ, Array.replicate_zero, List.push_toArray, List.append_toArray, List.nil_append, List.cons_append]
  gi_wp2
  go_ret
  exact ⟨rfl, rfl⟩

theorem back_stops (n Bs n₀ O b off cap : Nat) (ps : List Pt) (hbd : ∀ (i : Nat) (p : Pt), ps[i]? = some p → bdB p = true) (hn : 1 ≤ n) (hlen : 1 ≤ ps.length ∧ ps.length ≤ 100000) (hcap : ps.length ≤ cap ∧ cap ≤ maxLen) (hb : b < n₀ ∧ b ≠ O) (hs : Bs < n₀ ∧ Bs ≠ O) (w : World)
    (hBs : w.cell? ⟨Bs, 0, none⟩ = some (.slice (some ⟨b, off, none⟩) ps.length cap))
    (hc : ∀ i p, ps[i]? = some p → w.cell? ⟨b, off + i * 4, none⟩ = some (.int .i64 p.1.1) ∧ w.cell? ⟨b, off + i * 4 + 1, none⟩ = some (.int .i64 p.1.2) ∧ w.cell? ⟨b, off + i * 4 + 2, none⟩ = some (.int .i64 p.2.1) ∧ w.cell? ⟨b, off + i * 4 + 3, none⟩ = some (.int .i64 p.2.2)) :
    SeqStopsK Fence.wide n Tryz.prog 60 #[.pointer (some ⟨Bs, 0, none⟩)] encP (KpO O n₀) (fun ys => ys = bkL ps ps.length) (fun _ => True) ps.length w := fun l J Jx W hW _ _ hY hJ =>
  back1_in n l Bs n₀ O b off cap ps hbd hn hlen hcap hb hs J Jx hY W (cellB hW hBs) (fun i p hp => ⟨cellB hW (hc i p hp).1, cellB hW (hc i p hp).2.1, cellB hW (hc i p hp).2.2.1, cellB hW (hc i p hp).2.2.2⟩) hJ

end Go.Proofs.YtkeajfgcjmhmiaaGreatDoor
