/- Named maps: how a list of them reads; a law's argument; sizes; copies; rows of the call's own. -/
import Derived.Test.YtmabngjmfjjogaaDoorPrmI
import Derived.Test.YtmabngjmfjjogaaDoorPrsS
import Derived.Test.YtmabngjmfjjogaaDoorMarks
import Derived.Test.YtmabngjmfjjogaaDoorLaws
import Derived.Deep.SlicePairs
namespace Go.Proofs.YtmabngjmfjjogaaDoor
open Go.RowKit

/-- A name and its map. -/
abbrev Nm := List UInt8 × List Pt
/-- A slice that reads as a list of named maps. -/
def RdE (w : World) (v : Value) (ns : List Nm) : Prop := ∃ A c, v = .slice A ns.length c ∧ ns.length ≤ c ∧ c ≤ maxLen ∧ (ns ≠ [] → ∃ g o, A = some ⟨g, o, none⟩ ∧ g < w.heap.size ∧ ∀ (i : Nat) (n : Nm), ns[i]? = some n → w.cell? ⟨g, o + i * 2, none⟩ = some (str n.1) ∧ ∃ mv, w.cell? ⟨g, o + i * 2 + 1, none⟩ = some mv ∧ RdP w mv n.2)
theorem RdE.keep {w w' : World} {v : Value} {ns : List Nm} (h : RdE w v ns) (hb : Below w.heap.size w w') : RdE w' v ns := by
  obtain ⟨A, c, rfl, h1, h2, h3⟩ := h
  refine ⟨A, c, rfl, h1, h2, fun hne => ?_⟩
  obtain ⟨g, o, rfl, hg, hc⟩ := h3 hne
  refine ⟨g, o, rfl, Nat.lt_of_lt_of_le hg hb.size, fun i n hi => ?_⟩
  obtain ⟨a, mv, b, d⟩ := hc i n hi
  exact ⟨cellB hb a, mv, cellB hb b, d.keep hb⟩
/-- Names are not too long to be counted. -/
def NmL (ns : List Nm) : Prop := ∀ n ∈ ns, n.1.length ≤ 9223372036854775807

/-- The cells of a row of named maps. -/
def rowN : List Nm → List Value → List Value
  | n :: ns, m :: ms => str n.1 :: m :: rowN ns ms
  | _, _ => []
theorem rowN_len : ∀ {ns : List Nm} {ms : List Value}, ms.length = ns.length → (rowN ns ms).length = ns.length * 2
  | [], [], _ => rfl
  | n :: ns, m :: ms, h => by
    have := rowN_len (ns := ns) (ms := ms) (by simpa using h)
    simp only [rowN, List.length_cons, this]
    omega
theorem rowN_app : ∀ {ns ns' : List Nm} {ms ms' : List Value}, ms.length = ns.length → rowN (ns ++ ns') (ms ++ ms') = rowN ns ms ++ rowN ns' ms'
  | [], _, [], _, _ => rfl
  | n :: ns, ns', m :: ms, ms', h => by
    have := rowN_app (ns := ns) (ms := ms) (ns' := ns') (ms' := ms') (by simpa using h)
    simp only [List.cons_append, rowN, this]
theorem rowN_get : ∀ {ns : List Nm} {ms : List Value} {i : Nat} {n : Nm} {m : Value}, ns[i]? = some n → ms[i]? = some m → (rowN ns ms)[i * 2]? = some (str n.1) ∧ (rowN ns ms)[i * 2 + 1]? = some m
  | n :: ns, m :: ms, 0, _, _, h1, h2 => by simp at h1 h2; subst h1; subst h2; exact ⟨rfl, rfl⟩
  | n :: ns, m :: ms, i + 1, _, _, h1, h2 => by
    have := rowN_get (ns := ns) (ms := ms) (i := i) (by simpa using h1) (by simpa using h2)
    rw [show (i + 1) * 2 = i * 2 + 1 + 1 from by omega]
    simpa only [rowN, List.getElem?_cons_succ] using this
  | [], _, i, _, _, h1, _ => by simp at h1
  | _ :: _, [], i, _, _, _, h2 => by simp at h2

/-- The maps of a row: each in a block of its own. -/
def OwM (base : Nat) (w : World) (ns : List Nm) (ms : List Value) : Prop :=
  ms.length = ns.length ∧ (∀ (i : Nat) (n : Nm) (m : Value), ns[i]? = some n → ms[i]? = some m → OwP base 74 w m n.2) ∧ ∀ (i j : Nat) (m u : Value), i < j → ms[i]? = some m → ms[j]? = some u → Sep m u
/-- A row of named maps of the call's own. -/
def OwN (base : Nat) (w : World) (v : Value) (ns : List Nm) : Prop :=
  ∃ ms : List Value, w.ownsRow base 89 2 v ns.length (rowN ns ms) ∧ OwM base w ns ms
theorem OwM.keep {base : Nat} {w w' : World} {ns : List Nm} {ms : List Value} (h : OwM base w ns ms) (hb : Below w.heap.size w w') : OwM base w' ns ms :=
  ⟨h.1, fun i n m hn hm => (h.2.1 i n m hn hm).keep hb, h.2.2⟩
theorem OwM.low {base b : Nat} {w : World} {ns : List Nm} {ms : List Value} (h : OwM base w ns ms) (hb : b ≤ base) : OwM b w ns ms :=
  ⟨h.1, fun i n m hn hm => (h.2.1 i n m hn hm).low hb, h.2.2⟩
theorem OwN.keep {base : Nat} {w w' : World} {v : Value} {ns : List Nm} (h : OwN base w v ns) (hb : Below w.heap.size w w') : OwN base w' v ns := by
  obtain ⟨ms, h1, h2⟩ := h
  exact ⟨ms, ownsRow_keep h1 hb, h2.keep hb⟩
theorem OwN.low {base b : Nat} {w : World} {v : Value} {ns : List Nm} (h : OwN base w v ns) (hb : b ≤ base) : OwN b w v ns := by
  obtain ⟨ms, h1, h2⟩ := h
  exact ⟨ms, ownsRow_low h1 hb, h2.low hb⟩
theorem OwN.nil (base : Nat) (w : World) : OwN base w (.slice none 0 0) [] := ⟨[], World.ownsRow_nil _ _ _ _, rfl, fun i n m h => by simp at h, fun i j m u _ h => by simp at h⟩
theorem addr_add (g j : Nat) : (⟨g, 0, none⟩ : Addr).add j = ⟨g, j, none⟩ := by unfold Addr.add; split <;> simp_all
theorem OwN.read {base : Nat} {w : World} {v : Value} {ns : List Nm} (h : OwN base w v ns) : RdE w v ns := by
  obtain ⟨ms, h1, h2, h3, h4⟩ := h
  rcases h1.2 with ⟨rfl, hn⟩ | ⟨g, cap, cur, rfl, hb, hh, hle, hm, hs, hx⟩
  · have : ns = [] := List.eq_nil_of_length_eq_zero hn
    subst this
    exact ⟨none, 0, rfl, Nat.le_refl _, Nat.zero_le _, fun hne => absurd rfl hne⟩
  · refine ⟨_, cap, rfl, hle, hm, fun hne => ⟨g, 0, rfl, (Array.getElem?_eq_some_iff.1 hh).1, fun i n hi => ?_⟩⟩
    have hil : i < ns.length := (List.getElem?_eq_some_iff.1 hi).1
    have hmi : ms[i]? = some ms[i] := List.getElem?_eq_getElem (by omega)
    obtain ⟨a, b⟩ := rowN_get hi hmi
    have c := fun j hj => World.ownsRow.cellAt h1 j hj
    refine ⟨?_, ms[i], ?_, (h3 i n _ hi hmi).read⟩
    · rw [Nat.zero_add, c _ (by omega)]; exact a
    · rw [Nat.zero_add, c _ (by omega)]; exact b

open Go.ChangeShapes Go.WideShapes Go.ChangeAt Go.Joins in
section
variable {H : Type} {enc : TypeId × Value → H} {W : World} {base : Nat} {sp : Nat → Bool} {hd : Bool}
set_option maxRecDepth 100000 in
theorem open_ptsC {fuel : Nat} {cs : List Value} {x : DataW H × List MemPlace} (h : DataW.trod enc Tryd.prog W base sp hd fuel 29 cs = some x) :
    ∃ (v : Value) (ps : List Pt), cs = [v] ∧ RdP W v ps := by
  have k4 : Tryd.prog.cellsOf 77 = 4 := by kernel_rfl
  rcases Go.Deep.open_slice Tryd.underlying29 h with ⟨hcs, -⟩ | ⟨a, len, cap, m, n, D, Pl, hcs, -, hl, hm, hmm, -, hx⟩
  · exact ⟨_, [], hcs, none, 0, rfl, Nat.le_refl _, Nat.zero_le _, fun h => absurd rfl h⟩
  · have hlm : len ≤ m := by rw [hmm]; split <;> omega
    have each : ∀ i, i < len → ∃ q : Pt, ∀ j, j < 4 → W.cell? ((a.add (i * 4)).add j) = [Value.int .i64 q.1.1, .int .i64 q.1.2, .int .i64 q.2.1, .int .i64 q.2.2][j]? := by
      intro i hi
      obtain ⟨cs', h1, h2⟩ := hx i (by omega)
      rw [k4] at h1
      obtain ⟨q, rfl⟩ := open_pt h2
      obtain ⟨_, _, hcell⟩ := World.cells?_some h1
      exact ⟨q, fun j hj => hcell j hj⟩
    obtain ⟨q, hq⟩ := Go.Deep.choose_lt each
    refine ⟨_, (List.range len).map q, hcs, some a, cap, by simp, by simpa using hl, hm, fun hne => ?_⟩
    have hp : 0 < len := by
      rcases Nat.eq_zero_or_pos len with h0 | h0
      · subst h0; simp at hne
      · exact h0
    obtain ⟨g, o, spot⟩ := a
    have h00 := hq 0 hp 0 (by omega)
    have hspot : spot = none := by simpa [Addr.add] using World.cell?_spot h00
    subst hspot
    simp only [Go.WideShapes.add_plain] at hq h00
    refine ⟨g, o, rfl, lt_of_cell (by simpa using h00), fun i x hi => ?_⟩
    have hil : i < len := by
      have := (List.getElem?_eq_some_iff.1 hi).1
      simpa using this
    have hxi : x = q i := by
      rw [List.getElem?_map, List.getElem?_range hil] at hi
      simpa using hi.symm
    subst hxi
    refine ⟨?_, ?_, ?_, ?_⟩
    · simpa using hq i hil 0 (by omega)
    · simpa using hq i hil 1 (by omega)
    · simpa using hq i hil 2 (by omega)
    · simpa using hq i hil 3 (by omega)
set_option maxRecDepth 100000 in
/-- An argument that is a list of named maps. -/
theorem open_named {b0 : Nat} {v : Value} {d : DataW H} {p : List MemPlace}
    (hv : Value.okWide Tryd.prog W .any b0 43 v) (h : DataW.Trod enc Tryd.prog W base sp hd 43 v d p) :
    ∃ ns : List Nm, RdE W v ns ∧ NmL ns := by
  obtain ⟨A, len, cap, rfl⟩ := okWide_slice Tryd.underlying43 hv
  obtain ⟨fuel, hf⟩ := h
  rcases Go.Deep.open_slice_pairs Tryd.underlying43 Tryd.underlying87 (by kernel_rfl) (by kernel_rfl) (by kernel_rfl) (by kernel_rfl) (by kernel_rfl) hf with ⟨hcs, -⟩ | ⟨a, len', cap', m, n, V0, V1, D0, D1, P0, P1, hcs, -, hl, hm, hmm, -, hx⟩
  · simp [Value.cells] at hcs
    obtain ⟨rfl, rfl, rfl⟩ := hcs
    exact ⟨[], ⟨none, 0, rfl, Nat.le_refl _, Nat.zero_le _, fun h => absurd rfl h⟩, fun n hn => by simp at hn⟩
  · simp [Value.cells] at hcs
    obtain ⟨rfl, rfl, rfl⟩ := hcs
    have hlm : len ≤ m := by rw [hmm]; split <;> omega
    have each : ∀ i, i < len → ∃ q : Nm, W.cell? (a.add (i * 2)) = some (str q.1) ∧ q.1.length ≤ 9223372036854775807 ∧ W.cell? (a.add (i * 2 + 1)) = some (V1 i) ∧ RdP W (V1 i) q.2 := by
      intro i hi
      obtain ⟨c0, c1, t0, t1⟩ := hx i (by omega)
      obtain ⟨s, hs, -, hsz⟩ := DataW.trod_string Tryd.underlying9 t0
      obtain ⟨mv, ps, hmv, hp⟩ := open_ptsC t1
      simp only [List.cons.injEq, and_true] at hs hmv
      rw [hs] at c0
      rw [hmv] at c1
      refine ⟨(s.data.toList, ps), c0, ?_, by rw [hmv]; exact c1, by rw [hmv]; exact hp⟩
      have : s.data.toList.length = s.size := Array.length_toList
      unfold maxLen at hsz
      simp only
      omega
    obtain ⟨q, hq⟩ := Go.Deep.choose_lt each
    refine ⟨(List.range len).map q, ⟨some a, cap, by simp, by simpa using hl, hm, fun hne => ?_⟩, fun n hn => ?_⟩
    · have hp : 0 < len := by
        rcases Nat.eq_zero_or_pos len with h0 | h0
        · subst h0; simp at hne
        · exact h0
      obtain ⟨g, o, spot⟩ := a
      have h00 := (hq 0 hp).1
      have hspot : spot = none := by simpa [Addr.add] using World.cell?_spot h00
      subst hspot
      simp only [Go.WideShapes.add_plain] at hq h00
      refine ⟨g, o, rfl, lt_of_cell (by simpa using h00), fun i x hi => ?_⟩
      have hil : i < len := by
        have := (List.getElem?_eq_some_iff.1 hi).1
        simpa using this
      have hxi : x = q i := by
        rw [List.getElem?_map, List.getElem?_range hil] at hi
        simpa using hi.symm
      subst hxi
      obtain ⟨a1, -, a2, a3⟩ := hq i hil
      exact ⟨a1, _, by simpa [Nat.add_assoc] using a2, a3⟩
    · obtain ⟨i, hi, rfl⟩ := List.mem_map.1 hn
      exact (hq i (by simpa using hi)).2.1
end

def szOf (n : Nm) : Nat := n.1.length + n.2.length
def totN (ns : List Nm) : Nat := (ns.map szOf).sum
theorem totN_snoc {ns : List Nm} {k : Nat} {n : Nm} (h : ns[k]? = some n) : totN (ns.take (k + 1)) = totN (ns.take k) + szOf n := by
  unfold totN; rw [snocT h, List.map_append, List.sum_append]; simp
theorem totN_take (ns : List Nm) : ∀ k, totN (ns.take k) ≤ totN ns := fun k => by
  have : totN ns = totN (ns.take k) + totN (ns.drop k) := by unfold totN; rw [← List.sum_append, ← List.map_append, List.take_append_drop]
  omega
theorem szOf_le {ns : List Nm} {n : Nm} (h : n ∈ ns) : szOf n ≤ totN ns := by
  obtain ⟨k, hk⟩ := List.getElem?_of_mem h
  have := totN_snoc hk
  have := totN_take ns (k + 1)
  omega

/-- What counting leaves: the rest, or -1. -/
def SzEnd (w : World) (left : Nat) (n : Nat) (e : Ending) (w' : World) : Prop := ∃ r : Int, e = .returned (.int .i64 r) ∧ ((n ≤ left ∧ r = (left : Int) - n) ∨ (left < n ∧ r = -1)) ∧ Below w.heap.size w w'
set_option maxRecDepth 100000 in
set_option maxHeartbeats 1600000 in
theorem szNamed_is (l : List UInt8) (mv : Value) (ps : List Pt) (left : Nat) (w : World) (hl : left ≤ 1048576) (hn : l.length ≤ 9223372036854775807) (hv : RdP w mv ps) :
    Calls Tryd.prog 68 #[.agg #[str l, mv], .int .i64 left] w (SzEnd w left (l.length + ps.length)) := by
  have fl : ∀ W, (Builtin.len_ #[9] 3 #[str l]).run Tryd.prog W = .ok (.int .i64 l.length) W := fun W => str_len _ _ l W (by kernel_rfl)
  have v1 : IntKind.i64.wrap ((left : Int) - l.length) = (left : Int) - l.length := IntWalk.i64_in _ (by omega)
  have HV := Lib.hid hv
  clear hv
  by_cases h1 : l.length ≤ left
  · have b1 : ¬ (left : Int) - l.length < 0 := by omega
    have b1' : decide ((left : Int) - l.length < 0) = false := by simpa using b1
    obtain ⟨L, hL⟩ : ∃ L : Nat, left = l.length + L := ⟨left - l.length, by omega⟩
    have v2 : (left : Int) - l.length = (L : Int) := by omega
    rw [v2] at v1 b1 b1'
    have HL := Lib.hid hL
    clear hL
    by_cases h2 : ps.length ≤ L
    · have b2 : ¬ (L : Int) - ps.length < 0 := by omega
      go_enter Tryd.func68, Tryd.ntmps68
      go_wp2_with fail
      refine (szPointS_fits ps mv L _ (HV.out.keep (by go_grown)) (by have := HL.out; omega) (by omega)).mono ?_
      rintro e w1 ⟨rfl, rfl⟩
      go_wp2_with fail
      go_ret
      exact ⟨_, rfl, .inl ⟨by have := HL.out; omega, by have := HL.out; omega⟩, by go_grown⟩
    · go_enter Tryd.func68, Tryd.ntmps68
      go_wp2_with fail
      refine (szPointS_over ps mv L _ (HV.out.keep (by go_grown)) (by have := HL.out; omega) (by omega) (by omega)).mono ?_
      rintro e w1 ⟨rfl, rfl⟩
      go_wp2_with fail
      go_ret
      exact ⟨_, rfl, .inr ⟨by have := HL.out; omega, rfl⟩, by go_grown⟩
  · have b1 : (left : Int) - l.length < 0 := by omega
    go_enter Tryd.func68, Tryd.ntmps68
    go_wp2_with fail
    go_ret
    exact ⟨_, rfl, .inr ⟨by omega, rfl⟩, by go_grown⟩

def RelSz (ns : List Nm) (left : Nat) (w : World) (i q : Value) (wr : World) : Prop := ∃ (k r : Nat), k ≤ ns.length ∧ i = .int .i64 k ∧ q = .int .i64 r ∧ r + totN (ns.take k) + ns.length = left ∧ Below w.heap.size w wr
set_option maxRecDepth 100000 in
set_option maxHeartbeats 1600000 in
theorem szNamedS_is (ns : List Nm) (v : Value) (left : Nat) (w : World) (hl : left ≤ 1048576) (hv : RdE w v ns) (hn : NmL ns) :
    Calls Tryd.prog 27 #[v, .int .i64 left] w (SzEnd w left (ns.length + totN ns)) := by
  obtain ⟨A, c, rfl, hle, hm, hcell⟩ := hv
  unfold maxLen at hm
  have HC := Lib.hid hcell
  clear hcell
  have v1 : IntKind.i64.wrap ((left : Int) - ns.length) = (left : Int) - ns.length := IntWalk.i64_in _ (by omega)
  by_cases h1 : ns.length ≤ left
  · obtain ⟨L, hL⟩ : ∃ L : Nat, left = ns.length + L := ⟨left - ns.length, by omega⟩
    have v2 : (left : Int) - ns.length = (L : Int) := by omega
    rw [v2] at v1
    have HL := Lib.hid hL
    clear hL
    go_enter Tryd.func27, Tryd.ntmps27
    go_wp2_with fail
    go_loopw [1, 5] (fun q i wr => RelSz ns left w i q wr) (fun _ i _ => ns.length - (intOf i).toNat)
    case atStart => exact ⟨0, L, Nat.zero_le _, rfl, rfl, by have := HL.out; simp [totN]; omega, by go_grown⟩
    case round =>
      obtain ⟨k, r, hk, rfl, rfl, hr, hb⟩ := hrel
      by_cases hlt : k < ns.length
      · obtain ⟨g, o, rfl, hg, hc⟩ := HC.out (by rintro rfl; simp at hlt)
        have hx := List.getElem?_eq_getElem hlt
        generalize ns[k] = n at *
        obtain ⟨c0, mv, c1, hp⟩ := hc k n hx
        have HP := Lib.hid (hp.keep hb)
        have hnl := hn n (List.mem_of_getElem? hx)
        have ht := totN_snoc hx
        have ht2 := totN_take ns (k + 1)
        unfold szOf at ht
        replace c0 := cellB hb c0
        replace c1 := cellB hb c1
        have b0 : (0 : Int) ≤ (k : Int) := by omega
        have b1 : (k : Int) < (ns.length : Int) := by omega
        clear hc hp hx HC
        go_wp2_with fail
        refine (szNamed_is n.1 mv n.2 r _ (by omega) hnl (HP.out.keep (by go_grown))).mono ?_
        rintro e w1 ⟨q, rfl, hq, h1⟩
        replace hb := nextW hb (nextX (by go_grown) h1)
        clear h1
        rcases hq with ⟨hq1, rfl⟩ | ⟨hq1, rfl⟩
        · have b2 : ¬ (r : Int) - ((n.1.length + n.2.length : Nat) : Int) < 0 := by omega
          have b2' : decide ((r : Int) - ((n.1.length + n.2.length : Nat) : Int) < 0) = false := by simpa using b2
          obtain ⟨r', hr'⟩ : ∃ r' : Nat, r = n.1.length + n.2.length + r' := ⟨r - (n.1.length + n.2.length), by omega⟩
          have e2 : (r : Int) - ((n.1.length + n.2.length : Nat) : Int) = (r' : Int) := by omega
          rw [e2] at b2 b2' ⊢
          have HR := Lib.hid hr'
          have HR2 := Lib.hid hr
          clear hr' e2 hr
          go_wp2_with fail
          go_roundw
          case rel => exact ⟨k + 1, r', by omega, by go_num, rfl, by have := HR.out; have := HR2.out; omega, hb⟩
          case measure => simp [intOf] <;> omega
        · go_wp2_with fail
          go_ret
          exact ⟨_, rfl, .inr ⟨by omega, rfl⟩, hb⟩
      · obtain rfl : k = ns.length := by omega
        rw [List.take_length] at hr
        go_wp2_with fail
        go_ret
        exact ⟨_, rfl, .inl ⟨by omega, by omega⟩, hb⟩
  · have b1 : (left : Int) - ns.length < 0 := by omega
    go_enter Tryd.func27, Tryd.ntmps27
    go_wp2_with fail
    go_ret
    exact ⟨_, rfl, .inr ⟨by omega, rfl⟩, by go_grown⟩

end Go.Proofs.YtmabngjmfjjogaaDoor
