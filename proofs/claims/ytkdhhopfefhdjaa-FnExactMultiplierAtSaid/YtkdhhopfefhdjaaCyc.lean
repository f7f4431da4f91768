/- Cycles: slices.Clone, LimitCycle of both, cycleFrom, orCycle. -/
import Derived.Test.YtkdhhopfefhdjaaPer2
namespace Go.Proofs.Ytkdhhopfefhdjaa
open Go.RowKit

theorem perFrom_bd {l : List Q} : ∀ (n j : Nat) {a b : Int} {t : Bool}, n + j ≤ l.length → perFrom l n j = (a, b, t) → t = true → 0 ≤ a ∧ 1 ≤ b ∧ a + b < l.length
  | 0, j, a, b, t, _, h, ht => by rw [perFrom] at h; simp only [Prod.mk.injEq] at h; rw [← h.2.2] at ht; cases ht
  | n + 1, j, a, b, t, hn, h, ht => by
    rw [perFrom] at h
    split at h
    · rename_i h0
      have := idxQ_lt (l.take j) (l.getD j (0, 0)) h0
      rw [List.length_take] at this
      simp only [Prod.mk.injEq] at h
      omega
    · exact perFrom_bd n (j + 1) (by omega) h ht
theorem perQ_bd {l : List Q} {a b : Int} (h : perQ l = (a, b, true)) : 0 ≤ a ∧ 1 ≤ b ∧ a + b < l.length := perFrom_bd _ _ (by omega) h rfl

/-- A part of a list. -/
def partQ (l : List Q) (i n : Nat) : List Q := (l.drop i).take n
theorem partQ_len {l : List Q} {i n : Nat} (h : i + n ≤ l.length) : (partQ l i n).length = n := by unfold partQ; rw [List.length_take, List.length_drop]; omega
theorem partQ_get {l : List Q} {i n j : Nat} {q : Q} (h : (partQ l i n)[j]? = some q) : l[i + j]? = some q ∧ j < n := by
  unfold partQ at h
  rw [List.getElem?_take] at h
  split at h
  · rename_i hj; rw [List.getElem?_drop] at h; exact ⟨h, hj⟩
  · cases h
theorem RdQ.part {w : World} {g o n c : Nat} {l : List Q} (h : RdQ w (.slice (some ⟨g, o, none⟩) n c) l) (i m : Nat) (hi : i + m ≤ n) : RdQ w (.slice (some ⟨g, o + i * 2, none⟩) m (c - i)) (partQ l i m) := by
  obtain ⟨A', c', he, h1, h2, h3⟩ := h
  simp only [Value.slice.injEq] at he
  obtain ⟨rfl, rfl, rfl⟩ := he
  have hl := partQ_len (l := l) (i := i) (n := m) hi
  refine ⟨_, c - i, by rw [hl], by rw [hl]; omega, by omega, fun hn => ?_⟩
  obtain ⟨g', o', he, hg, hc⟩ := h3 (by rintro rfl; apply hn; unfold partQ; simp)
  simp only [Option.some.injEq, Addr.mk.injEq, and_true] at he
  obtain ⟨rfl, rfl⟩ := he
  refine ⟨g, o + i * 2, rfl, hg, fun j q hq => ?_⟩
  obtain ⟨hq1, -⟩ := partQ_get hq
  obtain ⟨d0, d1⟩ := hc _ _ hq1
  rw [show o + (i + j) * 2 = o + i * 2 + j * 2 from by omega] at d0 d1
  exact ⟨d0, d1⟩

def cycOf (l : List Q) (r : Int × Int × Bool) : List Q × Bool := if r.2.2 = true then (partQ l r.1.toNat r.2.1.toNat, true) else ([], false)
def cyc0 (l : List Q) (r : Int × Int × Bool) : List Q × Bool := if r.2.2 = true ∧ r.1 = 0 then (l.take r.2.1.toNat, true) else ([], false)
def cycQ (ps : List Pt) (x : Q) (n : Int) : List Q × Bool := cyc0 (orbOf ps x n).1 (perN ps x n)
/-- What a call leaves that gives a slice that reads as fractions, and a bool. -/
def RetQR (w : World) (qs : List Q) (t : Bool) (e : Ending) (w' : World) : Prop := ∃ r, e = .returned (.tuple #[r, .bool t]) ∧ RdQ w' r qs ∧ Below w.heap.size w w'
theorem take_ne_nil {m : List Q} {n : Nat} (h : n ≤ m.length) (h0 : 0 < n) : m.take n ≠ [] := by
  intro e
  have h5 : (m.take n).length = n := by rw [List.length_take]; omega
  rw [e] at h5; simp at h5; omega
theorem perOf_yes {ps : List Pt} {x : Q} {k : Nat} {a b : Int} (h : perOf ps x k = (a, b, true)) : (orbQ ps x k).length = k + 1 ∧ perQ (orbQ ps x k) = (a, b, true) := by
  unfold perOf at h
  split at h
  · rename_i hf; exact ⟨hf, h⟩
  · simp at h
def OldQ (lo : Nat) (v : Value) (qs : List Q) : Prop := qs ≠ [] → Old lo v
theorem RdQ.oldQ {w : World} {v : Value} {qs : List Q} (h : RdQ w v qs) {lo : Nat} (hl : w.heap.size ≤ lo) : OldQ lo v qs := by
  intro hn
  obtain ⟨A, c, rfl, h1, h2, h3⟩ := h
  obtain ⟨b, o, rfl, hb, -⟩ := h3 hn
  intro A' n c' e
  cases e
  exact Nat.lt_of_lt_of_le hb hl
theorem RdQ.keepO {lo g : Nat} {w w' : World} {v : Value} {qs : List Q} (h : RdQ w v qs) (hb : But g w w') (ho : OldQ lo v qs) (hg : lo ≤ g) : RdQ w' v qs := by
  obtain ⟨A, c, rfl, h1, h2, h3⟩ := h
  refine ⟨A, c, rfl, h1, h2, fun hn => ?_⟩
  obtain ⟨b, o, rfl, hg1, hc⟩ := h3 hn
  have hlt : b < lo := ho hn _ _ _ rfl
  refine ⟨b, o, rfl, Nat.lt_of_lt_of_le hg1 hb.size, fun i p hp => ?_⟩
  obtain ⟨a1, a2⟩ := hc i p hp
  exact ⟨cellU hb (by omega) a1, cellU hb (by omega) a2⟩
theorem RdQ.nil (w : World) : RdQ w (.slice none 0 0) [] := ⟨none, 0, rfl, Nat.le_refl _, Nat.zero_le _, fun h => absurd rfl h⟩
def limQ (ps : List Pt) (x : Q) (n : Int) : List Q × Bool := cycOf (orbOf ps x n).1 (perN ps x n)
theorem limQ_len {ps : List Pt} {x : Q} {n : Int} {l : List Q} {t : Bool} (h : limQ ps x n = (l, t)) : l.length ≤ 1048576 := by
  rcases ho : orbOf ps x n with ⟨m, tt⟩
  have := orbOf_len ho
  unfold limQ cycOf at h
  rw [ho] at h
  split at h
  · obtain ⟨rfl, -⟩ := Prod.mk.inj h
    unfold partQ
    rw [List.length_take, List.length_drop]; simp only; omega
  · obtain ⟨rfl, -⟩ := Prod.mk.inj h; simp

set_option maxRecDepth 100000 in
set_option maxHeartbeats 800000 in
theorem clone_is (l : List Q) (g o n c : Nat) (w : World) (hv : RdQ w (.slice (some ⟨g, o, none⟩) n c) l) (hl : l.length ≤ 100000) (h0 : l ≠ []) :
    Calls Try.prog 117 #[.slice (some ⟨g, o, none⟩) n c] w (RetQ w l) := by
  obtain ⟨A', c', he, h1, h2, h3⟩ := hv
  simp only [Value.slice.injEq] at he
  obtain ⟨rfl, rfl, rfl⟩ := he
  obtain ⟨g', o', he, hg, hc⟩ := h3 h0
  simp only [Option.some.injEq, Addr.mk.injEq, and_true] at he
  obtain ⟨rfl, rfl⟩ := he
  have HC := Lib.hid hc
  have hnz : 0 < l.length := by cases l with | nil => exact absurd rfl h0 | cons _ _ => simp
  clear hc h3 h0
  have hnil := fun (w : World) (a : Option Addr) (n c n' c' : Nat) => Lib.run_eql_slice_nil (P := Try.prog) w 43 34 a n c n' c' Try.underlying43
  go_enter Try.func117, Try.ntmps117
  go_wp2_with (at_builtin; refine append_q _ rfl _ _ rfl w.heap.size _ [] rfl ?own g o _ l rfl ?cs ?len ?base ?_)
  case own => exact World.ownsRow_made w #[] 0 (Nat.le_refl _) (Nat.zero_le _) rfl
  case cs => exact fun i q hq => ⟨cellA _ (HC.out i q hq).1, cellA _ (HC.out i q hq).2⟩
  case len => simp; omega
  case base => go_size
  intro v' w' hown hb
  have HO := Lib.hid (show OwQ w.heap.size 34 w' v' l by simpa using hown)
  have hB : Below w.heap.size w w' := Below.trans (by go_grown) hb
  clear hown hb
  go_wp2_with fail
  go_ret
  exact ⟨_, rfl, HO.out, hB⟩

set_option maxHeartbeats 1600000 in
theorem iLimitCycle_is (ps : List Pt) (v : Value) (x1 x2 n : Int) (l : List Q) (t : Bool) (hl : limQ ps (x1, x2) n = (l, t)) (w : World) (hv : RdP w v ps) (hn : ps.length ≤ 1048576) :
    Calls Try.prog 70 #[v, .agg #[.int .i64 x1, .int .i64 x2], .int .i64 n] w (RetQB w l t) := by
  rcases ho : orbOf ps (x1, x2) n with ⟨m, tt⟩
  have HL := Lib.hid ho
  have HV := Lib.hid hv
  rcases tt with _ | _
  · obtain ⟨rfl, rfl⟩ : [] = l ∧ false = t := by rw [← Prod.mk.injEq, ← hl]; unfold limQ; rw [perN_no ho]; rfl
    clear hv ho hl
    go_enter Try.func70, Try.ntmps70
    go_wp2_with fail
    refine (iOrbitOf_is ps v x1 x2 n m false HL.out _ (HV.out.keep (by go_grown)) hn).mono ?_
    rintro e w1 ⟨r, rfl, -, hb⟩
    have hX : Below w.heap.size w w1 := nextX (by go_grown) hb
    have b00 : w1.cell? ⟨w.heap.size, 0, none⟩ = some (.int .i64 x1) := cellB hb (by simp [go_sem])
    have b01 : w1.cell? ⟨w.heap.size, 1, none⟩ = some (.int .i64 x2) := cellB hb (by simp [go_sem])
    have zb00 := lt_of_cell b00
    have hB : Below w.heap.size w w1 := hX
    clear hb hX
    go_wp2_with fail
    go_ret2
    exact ⟨_, rfl, World.ownsRow_nil _ _ _ _, hB⟩
  · have hml := orbOf_len ho
    have hper := perN_yes ho
    obtain ⟨k0, -, hm1, hm2⟩ := orbOf_yes ho
    rcases hp : perQ m with ⟨a, b, t0⟩
    rw [hp] at hper
    have HP := Lib.hid hp
    rcases t0 with _ | _
    · obtain ⟨rfl, rfl⟩ : [] = l ∧ false = t := by rw [← Prod.mk.injEq, ← hl]; unfold limQ; rw [ho, hper]; rfl
      clear hv ho hl hper hp
      go_enter Try.func70, Try.ntmps70
      go_wp2_with fail
      refine (iOrbitOf_is ps v x1 x2 n m true HL.out _ (HV.out.keep (by go_grown)) hn).mono ?_
      rintro e w1 ⟨r, rfl, ow, hb⟩
      have hX : Below w.heap.size w w1 := nextX (by go_grown) hb
      have b00 : w1.cell? ⟨w.heap.size, 0, none⟩ = some (.int .i64 x1) := cellB hb (by simp [go_sem])
      have b01 : w1.cell? ⟨w.heap.size, 1, none⟩ = some (.int .i64 x2) := cellB hb (by simp [go_sem])
      have zb00 := lt_of_cell b00
      have hB : Below w.heap.size w w1 := hX
      clear hb hX
      go_wp2_with fail
      refine (periodIn_is m r a b false _ (ow.read.keep (by go_grown)) HP.out).mono ?_
      rintro e w2 ⟨rfl, hb⟩
      have hX : Below w1.heap.size w1 w2 := nextX (by go_grown) hb
      replace b00 := cellB hX b00
      replace b01 := cellB hX b01
      replace ow := ow.keep hX
      have zb00 := Nat.lt_of_lt_of_le zb00 hX.size
      replace hB := nextW hB hX
      clear hb hX
      go_wp2_with fail
      go_ret2
      exact ⟨_, rfl, World.ownsRow_nil _ _ _ _, hB⟩
    · obtain ⟨h1, h2, h3⟩ := perQ_bd hp
      obtain ⟨ka, rfl⟩ := Int.eq_ofNat_of_zero_le h1
      obtain ⟨pb, rfl⟩ := Int.eq_ofNat_of_zero_le (show 0 ≤ b by omega)
      obtain ⟨rfl, rfl⟩ : partQ m ka pb = l ∧ true = t := by rw [← Prod.mk.injEq, ← hl]; unfold limQ cycOf; rw [ho, hper]; simp
      clear hv ho hl hper hp
      go_enter Try.func70, Try.ntmps70
      go_wp2_with fail
      refine (iOrbitOf_is ps v x1 x2 n m true HL.out _ (HV.out.keep (by go_grown)) hn).mono ?_
      rintro e w1 ⟨r, rfl, ow, hb⟩
      have hX : Below w.heap.size w w1 := nextX (by go_grown) hb
      have b00 : w1.cell? ⟨w.heap.size, 0, none⟩ = some (.int .i64 x1) := cellB hb (by simp [go_sem])
      have b01 : w1.cell? ⟨w.heap.size, 1, none⟩ = some (.int .i64 x2) := cellB hb (by simp [go_sem])
      have zb00 := lt_of_cell b00
      have hB : Below w.heap.size w w1 := hX
      clear hb hX
      go_wp2_with fail
      refine (periodIn_is m r ka pb true _ (ow.read.keep (by go_grown)) HP.out).mono ?_
      rintro e w2 ⟨rfl, hb⟩
      have hX : Below w1.heap.size w1 w2 := nextX (by go_grown) hb
      replace b00 := cellB hX b00
      replace b01 := cellB hX b01
      replace ow := ow.keep hX
      have zb00 := Nat.lt_of_lt_of_le zb00 hX.size
      replace hB := nextW hB hX
      clear hb hX
      obtain ⟨g, cap, rfl, hc1, hc2, hg1, hg2, -⟩ := ow.lit hm1 (by omega)
      unfold maxLen at hc2
      have HR := Lib.hid ow.read
      clear ow
      have b0 : (0 : Int) ≤ (ka : Int) := by omega
      have b1 : (0 : Int) ≤ (pb : Int) := by omega
      have b2 : (ka : Int) + (pb : Int) ≤ (cap : Int) := by omega
      have b3 : (ka : Int) ≤ (ka : Int) + (pb : Int) := by omega
      have b4 : (ka : Int) < (cap : Int) := by omega
      have b5 : ((ka : Int) + (pb : Int)).toNat = ka + pb := by omega
      have b6 : ka + pb - ka = pb := by omega
      have b7 : ¬ cap = ka := by omega
      go_wp2_with fail
      have hR2 := RdQ.part HR.out ka pb (by omega)
      try rw [Nat.zero_add] at hR2
      refine (clone_is (partQ m ka pb) _ _ _ _ _ (hR2.keep (by go_grown)) (by rw [partQ_len (by omega)]; omega) (by intro h; have := partQ_len (l := m) (i := ka) (n := pb) (by omega); rw [h] at this; simp at this; omega)).mono ?_
      rintro e w3 ⟨rr, rfl, oc, hb⟩
      have hz := hB.size
      have hX : Below w2.heap.size w2 w3 := nextX (by go_grown) hb
      replace hB := nextW hB hX
      have HO := Lib.hid (oc.low (b := w.heap.size) hz)
      go_wp2_with fail
      go_ret2
      exact ⟨_, rfl, HO.out, hB⟩


set_option maxHeartbeats 1600000 in
theorem cycleFrom_is (ps : List Pt) (v : Value) (x1 x2 n : Int) (l : List Q) (t : Bool) (hl : cycQ ps (x1, x2) n = (l, t)) (w : World) (hv : RdP w v ps) (hn : ps.length ≤ 1048576) :
    Calls Try.prog 121 #[v, .agg #[.int .i64 x1, .int .i64 x2], .int .i64 n] w (RetQB w l t) := by
  rcases ho : orbOf ps (x1, x2) n with ⟨m, tt⟩
  have HL := Lib.hid ho
  have HV := Lib.hid hv
  rcases tt with _ | _
  · obtain ⟨rfl, rfl⟩ : [] = l ∧ false = t := by rw [← Prod.mk.injEq, ← hl]; unfold cycQ; rw [perN_no ho]; rfl
    clear hv ho hl
    go_enter Try.func121, Try.ntmps121
    go_wp2_with fail
    refine (iOrbitOf_is ps v x1 x2 n m false HL.out _ (HV.out.keep (by go_grown)) hn).mono ?_
    rintro e w1 ⟨r, rfl, -, hb⟩
    have hX : Below w.heap.size w w1 := nextX (by go_grown) hb
    have b00 : w1.cell? ⟨w.heap.size, 0, none⟩ = some (.int .i64 x1) := cellB hb (by simp [go_sem])
    have b01 : w1.cell? ⟨w.heap.size, 1, none⟩ = some (.int .i64 x2) := cellB hb (by simp [go_sem])
    have zb00 := lt_of_cell b00
    have hB : Below w.heap.size w w1 := hX
    clear hb hX
    go_wp2_with fail
    go_ret2
    exact ⟨_, rfl, World.ownsRow_nil _ _ _ _, hB⟩
  · have hml := orbOf_len ho
    have hper := perN_yes ho
    obtain ⟨k0, -, hm1, hm2⟩ := orbOf_yes ho
    rcases hp : perQ m with ⟨a, b, t0⟩
    rw [hp] at hper
    have HP := Lib.hid hp
    rcases t0 with _ | _
    · obtain ⟨rfl, rfl⟩ : [] = l ∧ false = t := by rw [← Prod.mk.injEq, ← hl]; unfold cycQ; rw [ho, hper]; rfl
      clear hv ho hl hper hp
      go_enter Try.func121, Try.ntmps121
      go_wp2_with fail
      refine (iOrbitOf_is ps v x1 x2 n m true HL.out _ (HV.out.keep (by go_grown)) hn).mono ?_
      rintro e w1 ⟨r, rfl, ow, hb⟩
      have hX : Below w.heap.size w w1 := nextX (by go_grown) hb
      have b00 : w1.cell? ⟨w.heap.size, 0, none⟩ = some (.int .i64 x1) := cellB hb (by simp [go_sem])
      have b01 : w1.cell? ⟨w.heap.size, 1, none⟩ = some (.int .i64 x2) := cellB hb (by simp [go_sem])
      have zb00 := lt_of_cell b00
      have hB : Below w.heap.size w w1 := hX
      clear hb hX
      go_wp2_with fail
      refine (periodIn_is m r a b false _ (ow.read.keep (by go_grown)) HP.out).mono ?_
      rintro e w2 ⟨rfl, hb⟩
      have hX : Below w1.heap.size w1 w2 := nextX (by go_grown) hb
      replace b00 := cellB hX b00
      replace b01 := cellB hX b01
      replace ow := ow.keep hX
      have zb00 := Nat.lt_of_lt_of_le zb00 hX.size
      replace hB := nextW hB hX
      clear hb hX
      go_wp2_with fail
      go_ret2
      exact ⟨_, rfl, World.ownsRow_nil _ _ _ _, hB⟩
    · obtain ⟨h1, h2, h3⟩ := perQ_bd hp
      obtain ⟨ka, rfl⟩ := Int.eq_ofNat_of_zero_le h1
      obtain ⟨pb, rfl⟩ := Int.eq_ofNat_of_zero_le (show 0 ≤ b by omega)
      by_cases hka : ka = 0
      · subst hka
        obtain ⟨rfl, rfl⟩ : m.take pb = l ∧ true = t := by rw [← Prod.mk.injEq, ← hl]; unfold cycQ cyc0; rw [ho, hper]; simp
        clear hv ho hl hper hp
        go_enter Try.func121, Try.ntmps121
        go_wp2_with fail
        refine (iOrbitOf_is ps v x1 x2 n m true HL.out _ (HV.out.keep (by go_grown)) hn).mono ?_
        rintro e w1 ⟨r, rfl, ow, hb⟩
        have hX : Below w.heap.size w w1 := nextX (by go_grown) hb
        have b00 : w1.cell? ⟨w.heap.size, 0, none⟩ = some (.int .i64 x1) := cellB hb (by simp [go_sem])
        have b01 : w1.cell? ⟨w.heap.size, 1, none⟩ = some (.int .i64 x2) := cellB hb (by simp [go_sem])
        have zb00 := lt_of_cell b00
        have hB : Below w.heap.size w w1 := hX
        clear hb hX
        go_wp2_with fail
        refine (periodIn_is m r ((0 : Nat) : Int) pb true _ (ow.read.keep (by go_grown)) HP.out).mono ?_
        rintro e w2 ⟨rfl, hb⟩
        have hX : Below w1.heap.size w1 w2 := nextX (by go_grown) hb
        replace b00 := cellB hX b00
        replace b01 := cellB hX b01
        replace ow := ow.keep hX
        have zb00 := Nat.lt_of_lt_of_le zb00 hX.size
        replace hB := nextW hB hX
        clear hb hX
        obtain ⟨g, cap, rfl, hc1, hc2, hg1, hg2, -⟩ := ow.lit hm1 (by omega)
        unfold maxLen at hc2
        have HR := Lib.hid ow.read
        clear ow
        skip
        have b1 : (0 : Int) ≤ (pb : Int) := by omega
        have b2 : (pb : Int) ≤ (cap : Int) := by omega
        go_wp2_with fail
        have hR2 := RdQ.take HR.out pb (by omega)
        refine (clone_is (m.take pb) _ _ _ _ _ (hR2.keep (by go_grown)) (by rw [List.length_take]; omega) (take_ne_nil (by omega) (by omega))).mono ?_
        rintro e w3 ⟨rr, rfl, oc, hb⟩
        have hz := hB.size
        have hX : Below w2.heap.size w2 w3 := nextX (by go_grown) hb
        replace hB := nextW hB hX
        have HO := Lib.hid (oc.low (b := w.heap.size) hz)
        go_wp2_with fail
        go_ret2
        exact ⟨_, rfl, HO.out, hB⟩
      · obtain ⟨rfl, rfl⟩ : [] = l ∧ false = t := by rw [← Prod.mk.injEq, ← hl]; unfold cycQ cyc0; rw [ho, hper]; simp [hka]
        clear hv ho hl hper hp
        have b9 : (0 : Int) < (ka : Int) := by omega
        go_enter Try.func121, Try.ntmps121
        go_wp2_with fail
        refine (iOrbitOf_is ps v x1 x2 n m true HL.out _ (HV.out.keep (by go_grown)) hn).mono ?_
        rintro e w1 ⟨r, rfl, ow, hb⟩
        have hX : Below w.heap.size w w1 := nextX (by go_grown) hb
        have b00 : w1.cell? ⟨w.heap.size, 0, none⟩ = some (.int .i64 x1) := cellB hb (by simp [go_sem])
        have b01 : w1.cell? ⟨w.heap.size, 1, none⟩ = some (.int .i64 x2) := cellB hb (by simp [go_sem])
        have zb00 := lt_of_cell b00
        have hB : Below w.heap.size w w1 := hX
        clear hb hX
        go_wp2_with fail
        refine (periodIn_is m r ka pb true _ (ow.read.keep (by go_grown)) HP.out).mono ?_
        rintro e w2 ⟨rfl, hb⟩
        have hX : Below w1.heap.size w1 w2 := nextX (by go_grown) hb
        replace b00 := cellB hX b00
        replace b01 := cellB hX b01
        replace ow := ow.keep hX
        have zb00 := Nat.lt_of_lt_of_le zb00 hX.size
        replace hB := nextW hB hX
        clear hb hX
        go_wp2_with fail
        go_ret2
        exact ⟨_, rfl, World.ownsRow_nil _ _ _ _, hB⟩


set_option maxHeartbeats 1600000 in
theorem sLimitCycle_is (ps : List Pt) (v : Value) (x1 x2 n : Int) (l : List Q) (t : Bool) (hl : limQ ps (x1, x2) n = (l, t)) (w : World) (hv : RdP w v ps) (hn : ps.length ≤ 1048576) :
    Calls Try.prog 69 #[v, .agg #[.int .i64 x1, .int .i64 x2], .int .i64 n] w (RetQR w l t) := by
  have HV := Lib.hid hv
  rcases hs : isStartB ps (x1, x2) n with _ | _
  · obtain ⟨rfl, rfl⟩ : [] = l ∧ false = t := by rw [← Prod.mk.injEq, ← hl]; unfold limQ; rw [perN_no (orbOf_a hs)]; rfl
    have HS := Lib.hid hs
    clear hv hl hs
    go_enter Try.func69, Try.ntmps69
    go_wp2_with fail
    refine (orAsked_is ps v x1 x2 n false _ (HV.out.keep (by go_grown)) hn HS.out).mono ?_
    rintro e w1 ⟨rfl, hb⟩
    have hX : Below w.heap.size w w1 := nextX (by go_grown) hb
    have b00 : w1.cell? ⟨w.heap.size, 0, none⟩ = some (.int .i64 x1) := cellB hb (by simp [go_sem])
    have b01 : w1.cell? ⟨w.heap.size, 1, none⟩ = some (.int .i64 x2) := cellB hb (by simp [go_sem])
    have zb00 := lt_of_cell b00
    have hB : Below w.heap.size w w1 := hX
    clear hb hX
    go_wp2_with fail
    go_ret2
    exact ⟨_, rfl, RdQ.nil _, hB⟩
  · obtain ⟨hm, hx, h0, h60⟩ := isStartB_parts hs
    obtain ⟨k, rfl⟩ := Int.eq_ofNat_of_zero_le h0
    have hk : k ≤ 60 := by omega
    have HS := Lib.hid hs
    have HM := Lib.hid (And.intro hm hx)
    have hlen := orbQ_len ps (x1, x2) k
    have hper : perN ps (x1, x2) k = perOf ps (x1, x2) k := by unfold perN; rw [if_pos hs]; rfl
    rcases hp : perOf ps (x1, x2) k with ⟨a, b, t0⟩
    rw [hp] at hper
    have HP := Lib.hid hp
    rcases t0 with _ | _
    · obtain ⟨rfl, rfl⟩ : [] = l ∧ false = t := by rw [← Prod.mk.injEq, ← hl]; unfold limQ; rw [hper]; rfl
      clear hv hl hs hm hx h0 h60 hper hp
      go_enter Try.func69, Try.ntmps69
      go_wp2_with fail
      refine (orAsked_is ps v x1 x2 k true _ (HV.out.keep (by go_grown)) hn HS.out).mono ?_
      rintro e w1 ⟨rfl, hb⟩
      have hX : Below w.heap.size w w1 := nextX (by go_grown) hb
      have b00 : w1.cell? ⟨w.heap.size, 0, none⟩ = some (.int .i64 x1) := cellB hb (by simp [go_sem])
      have b01 : w1.cell? ⟨w.heap.size, 1, none⟩ = some (.int .i64 x2) := cellB hb (by simp [go_sem])
      have zb00 := lt_of_cell b00
      have hB : Below w.heap.size w w1 := hX
      clear hb hX
      go_wp2_with fail
      refine (orPeriod_is ps v x1 x2 k a b false HP.out _ (HV.out.keep (nextX hB (by go_grown))) HM.out.1 HM.out.2 hk).mono ?_
      rintro e w2 ⟨rfl, hb⟩
      have hX : Below w1.heap.size w1 w2 := nextX (by go_grown) hb
      replace b00 := cellB hX b00
      replace b01 := cellB hX b01
      have zb00 := Nat.lt_of_lt_of_le zb00 hX.size
      replace hB := nextW hB hX
      clear hb hX
      go_wp2_with fail
      go_ret2
      exact ⟨_, rfl, RdQ.nil _, hB⟩
    · obtain ⟨hfull, hpq⟩ := perOf_yes hp
      obtain ⟨h1, h2, h3⟩ := perQ_bd hpq
      obtain ⟨ka, rfl⟩ := Int.eq_ofNat_of_zero_le h1
      obtain ⟨pb, rfl⟩ := Int.eq_ofNat_of_zero_le (show 0 ≤ b by omega)
      have ho := orbOf_b hs hfull
      obtain ⟨rfl, rfl⟩ : partQ (orbQ ps (x1, x2) k) ka pb = l ∧ true = t := by rw [← Prod.mk.injEq, ← hl]; unfold limQ cycOf; rw [ho, hper]; simp
      have HF := Lib.hid hfull
      clear hv hl hs hm hx h0 h60 hper hp hpq ho hfull
      go_enter Try.func69, Try.ntmps69
      go_wp2_with fail
      refine (orAsked_is ps v x1 x2 k true _ (HV.out.keep (by go_grown)) hn HS.out).mono ?_
      rintro e w1 ⟨rfl, hb⟩
      have hX : Below w.heap.size w w1 := nextX (by go_grown) hb
      have b00 : w1.cell? ⟨w.heap.size, 0, none⟩ = some (.int .i64 x1) := cellB hb (by simp [go_sem])
      have b01 : w1.cell? ⟨w.heap.size, 1, none⟩ = some (.int .i64 x2) := cellB hb (by simp [go_sem])
      have zb00 := lt_of_cell b00
      have hB : Below w.heap.size w w1 := hX
      clear hb hX
      go_wp2_with fail
      refine (orPeriod_is ps v x1 x2 k ka pb true HP.out _ (HV.out.keep (nextX hB (by go_grown))) HM.out.1 HM.out.2 hk).mono ?_
      rintro e w2 ⟨rfl, hb⟩
      have hX : Below w1.heap.size w1 w2 := nextX (by go_grown) hb
      replace b00 := cellB hX b00
      replace b01 := cellB hX b01
      have zb00 := Nat.lt_of_lt_of_le zb00 hX.size
      replace hB := nextW hB hX
      clear hb hX
      go_wp2_with fail
      refine (orRun_is ps v x1 x2 k _ (HV.out.keep (nextX hB (by go_grown))) HM.out.1 HM.out.2 hk).mono ?_
      rintro e w3 ⟨r, rfl, ow, hb⟩
      have hX : Below w2.heap.size w2 w3 := nextX (by go_grown) hb
      replace b00 := cellB hX b00
      replace b01 := cellB hX b01
      have zb00 := Nat.lt_of_lt_of_le zb00 hX.size
      replace hB := nextW hB hX
      clear hb hX
      obtain ⟨g, cap, rfl, hc1, hc2, hg1, hg2, -⟩ := ow.lit HF.out (by omega)
      unfold maxLen at hc2
      have HR := Lib.hid ow.read
      clear ow
      have hR2 := RdQ.part HR.out ka pb (by omega)
      rw [Nat.zero_add] at hR2
      have HR2 := Lib.hid hR2
      clear hR2
      have b0 : (0 : Int) ≤ (ka : Int) := by omega
      have b1 : (0 : Int) ≤ (pb : Int) := by omega
      have b2 : (ka : Int) + (pb : Int) ≤ (cap : Int) := by omega
      have b3 : (ka : Int) ≤ (ka : Int) + (pb : Int) := by omega
      have b4 : (ka : Int) < (cap : Int) := by omega
      have b5 : ((ka : Int) + (pb : Int)).toNat = ka + pb := by omega
      have b6 : ka + pb - ka = pb := by omega
      have b7 : ¬ cap = ka := by omega
      go_wp2_with fail
      go_ret2
      exact ⟨_, rfl, HR2.out, hB⟩


set_option maxHeartbeats 1600000 in
theorem orCycle_is (ps : List Pt) (v : Value) (x1 x2 n : Int) (l : List Q) (t : Bool) (hl : cycQ ps (x1, x2) n = (l, t)) (w : World) (hv : RdP w v ps) (hs : isStartB ps (x1, x2) n = true) :
    Calls Try.prog 118 #[v, .agg #[.int .i64 x1, .int .i64 x2], .int .i64 n] w (RetQR w l t) := by
  have HV := Lib.hid hv
  obtain ⟨hm, hx, h0, h60⟩ := isStartB_parts hs
  obtain ⟨k, rfl⟩ := Int.eq_ofNat_of_zero_le h0
  have hk : k ≤ 60 := by omega
  have HS := Lib.hid hs
  have HM := Lib.hid (And.intro hm hx)
  have hlen := orbQ_len ps (x1, x2) k
  have hper : perN ps (x1, x2) k = perOf ps (x1, x2) k := by unfold perN; rw [if_pos hs]; rfl
  rcases hp : perOf ps (x1, x2) k with ⟨a, b, t0⟩
  rw [hp] at hper
  have HP := Lib.hid hp
  rcases t0 with _ | _
  · obtain ⟨rfl, rfl⟩ : [] = l ∧ false = t := by rw [← Prod.mk.injEq, ← hl]; unfold cycQ; rw [hper]; rfl
    clear hv hl hs hm hx h0 h60 hper hp
    go_enter Try.func118, Try.ntmps118
    go_wp2_with fail
    refine (orPeriod_is ps v x1 x2 k a b false HP.out _ (HV.out.keep (by go_grown)) HM.out.1 HM.out.2 hk).mono ?_
    rintro e w1 ⟨rfl, hb⟩
    have hX : Below w.heap.size w w1 := nextX (by go_grown) hb
    have b00 : w1.cell? ⟨w.heap.size, 0, none⟩ = some (.int .i64 x1) := cellB hb (by simp [go_sem])
    have b01 : w1.cell? ⟨w.heap.size, 1, none⟩ = some (.int .i64 x2) := cellB hb (by simp [go_sem])
    have zb00 := lt_of_cell b00
    have hB : Below w.heap.size w w1 := hX
    clear hb hX
    go_wp2_with fail
    go_ret2
    exact ⟨_, rfl, RdQ.nil _, hB⟩
  · obtain ⟨hfull, hpq⟩ := perOf_yes hp
    obtain ⟨h1, h2, h3⟩ := perQ_bd hpq
    obtain ⟨ka, rfl⟩ := Int.eq_ofNat_of_zero_le h1
    obtain ⟨pb, rfl⟩ := Int.eq_ofNat_of_zero_le (show 0 ≤ b by omega)
    have ho := orbOf_b hs hfull
    by_cases hka : ka = 0
    · subst hka
      obtain ⟨rfl, rfl⟩ : (orbQ ps (x1, x2) k).take pb = l ∧ true = t := by rw [← Prod.mk.injEq, ← hl]; unfold cycQ cyc0; rw [ho, hper]; simp
      have HF := Lib.hid hfull
      clear hv hl hs hm hx h0 h60 hper hp hpq ho hfull
      go_enter Try.func118, Try.ntmps118
      go_wp2_with fail
      refine (orPeriod_is ps v x1 x2 k ((0 : Nat) : Int) pb true HP.out _ (HV.out.keep (by go_grown)) HM.out.1 HM.out.2 hk).mono ?_
      rintro e w1 ⟨rfl, hb⟩
      have hX : Below w.heap.size w w1 := nextX (by go_grown) hb
      have b00 : w1.cell? ⟨w.heap.size, 0, none⟩ = some (.int .i64 x1) := cellB hb (by simp [go_sem])
      have b01 : w1.cell? ⟨w.heap.size, 1, none⟩ = some (.int .i64 x2) := cellB hb (by simp [go_sem])
      have zb00 := lt_of_cell b00
      have hB : Below w.heap.size w w1 := hX
      clear hb hX
      go_wp2_with fail
      refine (orRun_is ps v x1 x2 k _ (HV.out.keep (nextX hB (by go_grown))) HM.out.1 HM.out.2 hk).mono ?_
      rintro e w2 ⟨r, rfl, ow, hb⟩
      have hX : Below w1.heap.size w1 w2 := nextX (by go_grown) hb
      replace b00 := cellB hX b00
      replace b01 := cellB hX b01
      have zb00 := Nat.lt_of_lt_of_le zb00 hX.size
      replace hB := nextW hB hX
      clear hb hX
      obtain ⟨g, cap, rfl, hc1, hc2, hg1, hg2, -⟩ := ow.lit HF.out (by omega)
      unfold maxLen at hc2
      have HR := Lib.hid ow.read
      clear ow
      have hR2 := Lib.hid (RdQ.take HR.out pb (by omega))
      have b1 : (0 : Int) ≤ (pb : Int) := by omega
      have b2 : (pb : Int) ≤ (cap : Int) := by omega
      go_wp2_with fail
      go_ret2
      exact ⟨_, rfl, hR2.out, hB⟩
    · obtain ⟨rfl, rfl⟩ : [] = l ∧ false = t := by rw [← Prod.mk.injEq, ← hl]; unfold cycQ cyc0; rw [ho, hper]; simp [hka]
      clear hv hl hs hm hx h0 h60 hper hp hpq ho hfull
      have b9 : (0 : Int) < (ka : Int) := by omega
      go_enter Try.func118, Try.ntmps118
      go_wp2_with fail
      refine (orPeriod_is ps v x1 x2 k ka pb true HP.out _ (HV.out.keep (by go_grown)) HM.out.1 HM.out.2 hk).mono ?_
      rintro e w1 ⟨rfl, hb⟩
      have hX : Below w.heap.size w w1 := nextX (by go_grown) hb
      have b00 : w1.cell? ⟨w.heap.size, 0, none⟩ = some (.int .i64 x1) := cellB hb (by simp [go_sem])
      have b01 : w1.cell? ⟨w.heap.size, 1, none⟩ = some (.int .i64 x2) := cellB hb (by simp [go_sem])
      have zb00 := lt_of_cell b00
      have hB : Below w.heap.size w w1 := hX
      clear hb hX
      go_wp2_with fail
      go_ret2
      exact ⟨_, rfl, RdQ.nil _, hB⟩


end Go.Proofs.Ytkdhhopfefhdjaa
