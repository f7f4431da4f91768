/- Plain: orbits. · Rows of the call's own beside a block that is written: a calc, a box. · Orbits: the program's orbit, the reference's orRun. · Orbits: the reference's orRun; isStart, orAsked; OrbitOf of both. · OrbitOf, StepsInSize, IterateMap of both. -/
import Derived.Test.YtkeajfgcjmhmiaaGreatVals
import Derived.Test.YtkeajfgcjmhmiaaGreatMaps
import Derived.Laws.OwnMore
namespace Go.Proofs.YtkeajfgcjmhmiaaGreat

/-- The fractions from x on, as far as they can be reckoned, for at most n steps. -/
def orbQ (ps : List Pt) (x : Q) : Nat → List Q
  | 0 => [x]
  | k + 1 =>
    let l := orbQ ps x k
    let v := valQ ps (l.getLastD x)
    if l.length = k + 1 ∧ v.2 = true then l ++ [v.1] else l

theorem orbQ_len (ps : List Pt) (x : Q) : ∀ k, 1 ≤ (orbQ ps x k).length ∧ (orbQ ps x k).length ≤ k + 1
  | 0 => by simp [orbQ]
  | k + 1 => by
    have ih := orbQ_len ps x k
    rw [orbQ]
    split
    · simp; omega
    · omega
theorem orbQ_ne (ps : List Pt) (x : Q) (k : Nat) : orbQ ps x k ≠ [] := by
  have := (orbQ_len ps x k).1
  intro e; rw [e] at this; simp at this
theorem orbQ_go {ps : List Pt} {x y z : Q} {k : Nat} (hl : (orbQ ps x k).length = k + 1) (hy : (orbQ ps x k)[k]? = some y) (hv : valQ ps y = (z, true)) : orbQ ps x (k + 1) = orbQ ps x k ++ [z] := by
  have : (orbQ ps x k).getLastD x = y := by
    rw [List.getLastD_eq_getLast?, List.getLast?_eq_getElem?, hl, Nat.add_sub_cancel, hy]; rfl
  rw [orbQ, this, hv]; simp [hl]
theorem orbQ_stop {ps : List Pt} {x y z : Q} {k : Nat} (hl : (orbQ ps x k).length = k + 1) (hy : (orbQ ps x k)[k]? = some y) (hv : valQ ps y = (z, false)) : ∀ m, orbQ ps x (k + m) = orbQ ps x k
  | 0 => rfl
  | m + 1 => by
    have ih := orbQ_stop hl hy hv m
    have : (orbQ ps x k).getLastD x = y := by
      rw [List.getLastD_eq_getLast?, List.getLast?_eq_getElem?, hl, Nat.add_sub_cancel, hy]; rfl
    rw [← Nat.add_assoc, orbQ, ih, this, hv]; simp
theorem orbQ_stopped {ps : List Pt} {x y z : Q} {k n : Nat} (hl : (orbQ ps x k).length = k + 1) (hy : (orbQ ps x k)[k]? = some y) (hv : valQ ps y = (z, false)) (hn : k ≤ n) : orbQ ps x n = orbQ ps x k := by
  have := orbQ_stop hl hy hv (n - k)
  rwa [show k + (n - k) = n from by omega] at this
theorem orbQ_unit {ps : List Pt} {x : Q} (hm : okMap ps = true) (hx : unitQ x.1 x.2 = true) : ∀ k, ∀ y ∈ orbQ ps x k, unitQ y.1 y.2 = true
  | 0 => by simp [orbQ]; exact hx
  | k + 1 => by
    have ih := orbQ_unit hm hx k
    rw [orbQ]
    split
    · intro y hy
      rcases List.mem_append.1 hy with h | h
      · exact ih y h
      · simp at h; subst h
        refine valQ_unit hm ?_
        rw [List.getLast?_eq_some_getLast (orbQ_ne ps x k)]
        exact ih _ (List.getLast_mem (orbQ_ne ps x k))
    · exact ih

/-- The first place of a fraction in a list. -/
def idxQ (l : List Q) (x : Q) : Int := match l.findIdx? (fun y => decide (y = x)) with | some i => i | none => -1

/-- The preperiod and the period that a list shows: from place j on. -/
def perFrom (l : List Q) : Nat → Nat → Int × Int × Bool
  | 0, _ => (0, 0, false)
  | n + 1, j =>
    let k := idxQ (l.take j) (l.getD j (0, 0))
    if 0 ≤ k then (k, j - k, true) else perFrom l n (j + 1)
def perQ (l : List Q) : Int × Int × Bool := perFrom l l.length 0

end Go.Proofs.YtkeajfgcjmhmiaaGreat

namespace Go.Proofs.YtkeajfgcjmhmiaaGreat
open Go.RowKit

theorem But.of_grown {g : Nat} {w w' : World} {row : Option Nat} (h : w.grownBy w' row) (hr : row = none ∨ row = some g) : But g w w' :=
  ⟨h.os, h.tape, h.output, h.size, fun k hk hn => h.block k hk (by rcases hr with rfl | rfl <;> simp <;> omega)⟩

theorem ownsRow_keepU {g base : Nat} {e : TypeId} {size n : Nat} {w w' : World} {v : Value} {xs : List Value} (h : w.ownsRow base e size v n xs) (hb : But g w w') (hn : v.ownBlock ≠ some g) : w'.ownsRow base e size v n xs := by
  obtain ⟨h1, h2⟩ := h
  refine ⟨h1, ?_⟩
  rcases h2 with h2 | ⟨b, cap, cur, rfl, hg, hh, h3⟩
  · exact .inl h2
  · have hlt : b < w.heap.size := (Array.getElem?_eq_some_iff.1 hh).1
    exact .inr ⟨b, cap, cur, rfl, hg, (hb.block b hlt (by simpa [Value.ownBlock] using hn)).trans hh, h3⟩
theorem OwQ.keepU {g base : Nat} {e : TypeId} {w w' : World} {v : Value} {qs : List Q} (h : OwQ base e w v qs) (hb : But g w w') (hn : v.ownBlock ≠ some g) : OwQ base e w' v qs := ownsRow_keepU h hb hn
theorem OwP.keepU {g base : Nat} {e : TypeId} {w w' : World} {v : Value} {ps : List Pt} (h : OwP base e w v ps) (hb : But g w w') (hn : v.ownBlock ≠ some g) : OwP base e w' v ps := ownsRow_keepU h hb hn

/-- A row of fractions is no block that holds a bool. -/
theorem OwQ.ne_bool {base g : Nat} {e : TypeId} {w : World} {v : Value} {qs : List Q} {b : Bool} (h : OwQ base e w v qs) (hc : w.cell? ⟨g, 0, none⟩ = some (.bool b)) (hn : qs ≠ [] ∨ v = .slice none 0 0) : v.ownBlock ≠ some g := by
  intro hb
  rcases hn with hn | rfl
  · cases qs with
    | nil => exact hn rfl
    | cons q r =>
      have := World.ownsRow.cells h hb 0 _ (rowQ_get (q :: r) 0 q rfl).1
      rw [show (⟨g, 0, none⟩ : Addr).add 0 = ⟨g, 0, none⟩ from rfl] at this
      rw [this] at hc
      cases hc
  · simp [Value.ownBlock] at hb
/-- .. no block of so low a number. -/
theorem OwQ.ne_low {base g : Nat} {e : TypeId} {w : World} {v : Value} {qs : List Q} (h : OwQ base e w v qs) (hg : g < base) : v.ownBlock ≠ some g := by
  intro hb
  have := (World.ownsRow.lt h g hb).1
  omega

/-- A slice that is written out with one fraction. -/
theorem OwQ.one (w : World) (base : Nat) (e : TypeId) (a b : Int) (hb : base ≤ w.heap.size) : OwQ base e (w.alloc (.cells #[.int .i64 a, .int .i64 b] e)) (.slice (some ⟨w.heap.size, 0, none⟩) 1 1) [(a, b)] :=
  ⟨rfl, .inr ⟨w.heap.size, 1, _, rfl, hb, heap_alloc_new w _, Nat.le_refl _, by simp [maxLen], rfl, by simp [rowQ]⟩⟩

/-- Appending one fraction: only the row's own block is written. -/
theorem append_q1g {ops : Array Oper} {rest : List Oper} {o : Oper} {a : Act} {K : Exit → Act → World → Prop} (w : World) (hgd : o.guard = none) (s x : Operand)
    (ho : o.op = .call { callee := .builtin .append, args := #[s, x], argTypes := #[43, 43] })
    (base : Nat) (v : Value) (qs : List Q) (hs : a.eval s = v) (hown : OwQ base 31 w v qs)
    (g c : Nat) (n d : Int) (hx : a.eval x = .slice (some ⟨g, 0, none⟩) 1 c) (c0 : w.cell? ⟨g, 0, none⟩ = some (.int .i64 n)) (c1 : w.cell? ⟨g, 1, none⟩ = some (.int .i64 d))
    (hlen : qs.length ≤ 900000) (hbase : base ≤ w.heap.size)
    (h : ∀ v' w', OwQ base 31 w' v' (qs ++ [(n, d)]) → w.grownBy w' v.ownBlock → wpList Tryz.prog ops K rest (a.put o.dst v') w') : wpList Tryz.prog ops K (o :: rest) a w := by
  obtain ⟨i, hi, hz, hsz, hb⟩ := info_parts Tryz.infoQ
  have hcell : ∀ j u, (rowQ [(n, d)])[j]? = some u → w.cell? ((⟨g, 0, none⟩ : Addr).add j) = some u := by
    intro j u hj
    have hadd : (⟨g, 0, none⟩ : Addr).add j = ⟨g, j, none⟩ := by unfold Addr.add; split <;> simp_all
    rw [hadd]
    match j, hj with
    | 0, hj => simp [rowQ] at hj; subst hj; exact c0
    | 1, hj => simp [rowQ] at hj; subst hj; exact c1
    | j + 2, hj => simp [rowQ] at hj
  have hone : ∀ u ∈ rowQ [(n, d)], u.oneCell' = true := by
    intro u hu
    simp [rowQ] at hu
    rcases hu with rfl | rfl <;> rfl
  refine wpList_append_own w hgd s x 43 ho base 31 i _ 2 16 Tryz.underlying43 hi hz hsz hb rfl (by decide) v qs.length (rowQ qs) hs hown ⟨g, 0, none⟩ 1 c (rowQ [(n, d)]) hx rfl hcell hone (by unfold maxLen; omega) (by omega) hbase ?_
  intro v' w' h1 h2 _
  refine h v' w' ?_ h2
  unfold OwQ; rw [List.length_append, rowQ_app]; exact h1

theorem grown_slot {w w' : World} {row : Option Nat} {b o : Nat} {v : Value} (h : w.grownBy w' row) (hs : Slot w b o v) (hn : row ≠ some b) : Slot w' b o v :=
  ⟨h.cell hs.1 (fun e => hn e.symm), (World.frozen?_of_block (w := w) (h.block b (lt_of_cell hs.1) (fun e => hn e.symm))).trans hs.2⟩
theorem ownsRow_low {base b : Nat} {e : TypeId} {size n : Nat} {w : World} {v : Value} {xs : List Value} (h : w.ownsRow base e size v n xs) (hb : b ≤ base) : w.ownsRow b e size v n xs :=
  ⟨h.1, h.2.imp id fun ⟨g, cap, cur, h1, h2, h3⟩ => ⟨g, cap, cur, h1, Nat.le_trans hb h2, h3⟩⟩
theorem OwQ.low {base b : Nat} {e : TypeId} {w : World} {v : Value} {qs : List Q} (h : OwQ base e w v qs) (hb : b ≤ base) : OwQ b e w v qs := ownsRow_low h hb
theorem OwP.low {base b : Nat} {e : TypeId} {w : World} {v : Value} {qs : List Pt} (h : OwP base e w v qs) (hb : b ≤ base) : OwP b e w v qs := ownsRow_low h hb
theorem OwQ.from {base k : Nat} {e : TypeId} {w : World} {v : Value} {qs : List Q} (h : OwQ base e w v qs) (hk : v.ownBlock = some k) : base ≤ k := (World.ownsRow.lt h k hk).1

/-- How many elements a slice has. -/
def lenOf : Value → Nat
  | .slice _ n _ => n
  | _ => 0
theorem OwQ.lenOf {base : Nat} {e : TypeId} {w : World} {v : Value} {qs : List Q} (h : OwQ base e w v qs) : lenOf v = qs.length := by
  rcases h.2 with ⟨rfl, hn⟩ | ⟨g, cap, cur, rfl, -⟩
  · exact hn.symm
  · rfl
theorem OwP.lenOf {base : Nat} {e : TypeId} {w : World} {v : Value} {qs : List Pt} (h : OwP base e w v qs) : lenOf v = qs.length := by
  rcases h.2 with ⟨rfl, hn⟩ | ⟨g, cap, cur, rfl, -⟩
  · exact hn.symm
  · rfl
/-- A row that is not empty, written out. -/
theorem OwQ.lit {base n : Nat} {e : TypeId} {w : World} {v : Value} {qs : List Q} (h : OwQ base e w v qs) (hl : qs.length = n) (h0 : 0 < n) :
    ∃ g cap, v = .slice (some ⟨g, 0, none⟩) n cap ∧ n ≤ cap ∧ cap ≤ maxLen ∧ base ≤ g ∧ g < w.heap.size ∧ ∀ i q, qs[i]? = some q → w.cell? ⟨g, i * 2, none⟩ = some (.int .i64 q.1) ∧ w.cell? ⟨g, i * 2 + 1, none⟩ = some (.int .i64 q.2) := by
  subst hl
  have h0' := h
  rcases h.2 with ⟨rfl, hn⟩ | ⟨g, cap, cur, rfl, hb, hh, hle, hm, -, -⟩
  · omega
  · refine ⟨g, cap, rfl, hle, hm, hb, (Array.getElem?_eq_some_iff.1 hh).1, fun i q hq => ?_⟩
    have hi : i < qs.length := (List.getElem?_eq_some_iff.1 hq).1
    obtain ⟨a, b⟩ := rowQ_get qs i q hq
    exact ⟨(World.ownsRow.cellAt h0' _ (by omega)).trans a, (World.ownsRow.cellAt h0' _ (by omega)).trans b⟩

/-- What a call leaves that gives a row of fractions and a bool. -/
def RetQB (w : World) (qs : List Q) (t : Bool) (e : Ending) (w' : World) : Prop := ∃ r, e = .returned (.tuple #[r, .bool t]) ∧ OwQ w.heap.size 31 w' r qs ∧ Below w.heap.size w w'

end Go.Proofs.YtkeajfgcjmhmiaaGreat

namespace Go.Proofs.YtkeajfgcjmhmiaaGreat
open Go.RowKit

def RelOrb (ps : List Pt) (x : Q) (n h : Nat) (W0 : World) (out i : Value) (wr : World) : Prop :=
  ∃ (k : Nat) (y : Q), k ≤ n ∧ i = .int .i64 k ∧ (orbQ ps x k).length = k + 1 ∧ (orbQ ps x k)[k]? = some y ∧ OwQ (h + 1) 31 wr out (orbQ ps x k) ∧ Slot wr h 0 (.int .i64 y.1) ∧ Slot wr h 1 (.int .i64 y.2) ∧ Slot wr (h + 2) 0 (.bool false) ∧ Below h W0 wr

theorem append_last {α : Type} {l : List α} {k : Nat} (z : α) (h : l.length = k) : (l ++ [z])[k]? = some z := by
  rw [List.getElem?_append_right (by omega)]; simp [h]

set_option maxHeartbeats 1600000 in
theorem orbit_is (ps : List Pt) (v : Value) (x1 x2 : Int) (n : Nat) (w : World) (hv : RdP w v ps) (hm : okMap ps = true) (hx : unitQ x1 x2 = true) (hn : n ≤ 60) :
    Calls Tryz.prog 121 #[v, .agg #[.int .i64 x1, .int .i64 x2], .int .i64 n] w (RetQ w (orbQ ps (x1, x2) n)) := by
  have HV := Lib.hid hv
  have HM := Lib.hid hm
  have HU := Lib.hid (orbQ_unit (x := (x1, x2)) hm hx)
  have HOld := Lib.hid (hv.old (okMap_ne hm) (g := w.heap.size + 2) (by omega))
  clear hv hm
  go_enter Tryz.func121, Tryz.ntmps121
  go_wp2_with fail
  go_name_world W0 hW
  have hB0 : Below w.heap.size w W0 := by rw [← hW]; go_grown
  have s0 : Slot W0 w.heap.size 0 (.int .i64 x1) := by rw [← hW]; exact ⟨by simp [go_sem], by simp [go_sem]⟩
  have s1 : Slot W0 w.heap.size 1 (.int .i64 x2) := by rw [← hW]; exact ⟨by simp [go_sem], by simp [go_sem]⟩
  have s2 : Slot W0 (w.heap.size + 2) 0 (.bool false) := by rw [← hW]; exact ⟨by simp [go_sem], by simp [go_sem]⟩
  have o0 : OwQ (w.heap.size + 1) 31 W0 (.slice (some ⟨w.heap.size + 1, 0, none⟩) 1 1) [(x1, x2)] := by
    rw [← hW]
    have h1 := OwQ.one (w.alloc (.cells #[.int .i64 x1, .int .i64 x2] 31)) (w.heap.size + 1) 31 x1 x2 (by simp)
    rw [World.size_alloc] at h1
    exact h1.keep (by go_grown)
  have HS0 := Lib.hid (And.intro s0 (And.intro s1 (And.intro s2 o0)))
  clear hW s0 s1 s2 o0
  go_loopw [7, 12] (fun out i wr => RelOrb ps (x1, x2) n w.heap.size W0 out i wr) (fun _ i _ => n - (intOf i).toNat)
  case atStart => exact ⟨0, (x1, x2), Nat.zero_le _, rfl, rfl, rfl, HS0.out.2.2.2, HS0.out.1, HS0.out.2.1, HS0.out.2.2.1, Below.refl _ _⟩
  case round =>
    obtain ⟨k, ⟨y1, y2⟩, hk, rfl, hlen, hy, hown, hs0, hs1, hs2, hb⟩ := hrel
    have HO := Lib.hid hown
    have HL := Lib.hid hlen
    have HY := Lib.hid hy
    have hu := HU.out k _ (List.mem_of_getElem? hy)
    have z2 := lt_of_cell hs2.1
    clear hown hlen hy
    by_cases hlt : k < n
    · rcases hz : valQ ps (y1, y2) with ⟨⟨z1, z2⟩, t⟩
      have HZ := Lib.hid hz
      have HUu := Lib.hid hu
      obtain ⟨c0, f0⟩ := hs0
      obtain ⟨c1, f1⟩ := hs1
      have HS := Lib.hid hs2
      clear hz hu hs2
      go_wp2_with fail
      refine (value_is ps v y1 y2 z1 z2 t false (!t) (w.heap.size + 2) _ HS.out (HV.out.keep (Below.trans hB0 hb)) HOld.out HM.out HUu.out HZ.out (by cases t <;> rfl)).mono ?_
      rintro e w1 ⟨rfl, g1, k1⟩
      have hlt2 := k1.size
      have d0 := slotU k1 (by omega) ⟨c0, f0⟩
      have d1 := slotU k1 (by omega) ⟨c1, f1⟩
      have hne := HO.out.ne_bool HS.out.1 (.inl (orbQ_ne _ _ _))
      have o1 : OwQ (w.heap.size + 1) 31 w1 u7 (orbQ ps (x1, x2) k) := HO.out.keepU k1 hne
      have HNE := Lib.hid hne
      have hb1 : Below w.heap.size W0 w1 := But.below hb k1 (by omega) (by omega)
      have HO1 := Lib.hid o1
      clear c0 c1 f0 f1 o1 k1 hb hne
      obtain ⟨c0, f0⟩ := d0
      obtain ⟨c1, f1⟩ := d1
      obtain ⟨c2, f2⟩ := g1
      have y0 := lt_of_cell c0
      rcases t with _ | _
      · go_wp2_with fail
        go_ret
        refine ⟨_, rfl, ?_, Below.trans hB0 (by go_grown)⟩
        rw [orbQ_stopped HL.out HY.out HZ.out hk]
        exact (HO1.out.keepU (((But.refl _ _).setCell _).setCell _) (HO1.out.ne_low (by omega))).low (by omega)
      · go_wp2_with (at_builtin; refine append_q1g _ rfl _ _ rfl (w.heap.size + 1) _ (orbQ ps (x1, x2) k) rfl ?own _ _ z1 z2 rfl ?c0 ?c1 ?len ?base ?_)
        case own => exact HO1.out.keepU ((((But.refl _ _).setCell _).setCell _).alloc _) (HO1.out.ne_low (by omega))
        case c0 => simp [go_sem]
        case c1 => simp [go_sem]
        case len => rw [HL.out]; omega
        case base => go_size
        intro v' w' hown hg
        have q0 := grown_slot hg (slotA _ (slotS (slotN ⟨c0, f0⟩) (by simp))) (HO1.out.ne_low (by omega))
        have q1 := grown_slot hg (slotA _ (slotN (slotS ⟨c1, f1⟩ (by simp)))) (HO1.out.ne_low (by omega))
        have q2 := grown_slot hg (slotA _ (slotS (slotS ⟨c2, f2⟩ (by simp)) (by simp))) HNE.out
        have hB : Below w.heap.size W0 w' := Below.grown (by go_grown) hg (by go_size) (fun k hk => Nat.le_of_succ_le (HO1.out.from hk))
        have HO2 := Lib.hid hown
        have HR := Lib.hid (And.intro q0 (And.intro q1 q2))
        clear hown hg q0 q1 q2 c0 c1 c2 f0 f1 f2 hb1 HO HO1
        have hgo := orbQ_go HL.out HY.out HZ.out
        go_wp2_with fail
        go_roundw
        case rel => exact ⟨k + 1, (z1, z2), by omega, by go_num, by rw [hgo, List.length_append, HL.out]; rfl, by rw [hgo]; exact append_last _ HL.out, by rw [hgo]; exact HO2.out, HR.out.1, HR.out.2.1, HR.out.2.2, hB⟩
        case measure => simp [intOf]; omega
    · obtain rfl : k = n := by omega
      go_wp2_with fail
      go_ret
      exact ⟨_, rfl, HO.out.low (by omega), Below.trans hB0 hb⟩

end Go.Proofs.YtkeajfgcjmhmiaaGreat

namespace Go.Proofs.YtkeajfgcjmhmiaaGreat
open Go.RowKit

def RelRun (ps : List Pt) (x : Q) (n h : Nat) (W0 : World) (out : Value) (wr : World) : Prop :=
  ∃ (k : Nat) (y : Q), k ≤ n ∧ (orbQ ps x k).length = k + 1 ∧ (orbQ ps x k)[k]? = some y ∧ OwQ (h + 1) 31 wr out (orbQ ps x k) ∧ Below h W0 wr

theorem atQ_yes {ps : List Pt} {x z : Q} (h : valQ ps x = (z, true)) : atQ ps x = (z.1, z.2, true) := by unfold atQ; rw [h]; rfl
theorem atQ_no {ps : List Pt} {x z : Q} (h : valQ ps x = (z, false)) : atQ ps x = (0, 0, false) := by unfold atQ; rw [h]; rfl

set_option maxHeartbeats 1600000 in
theorem orRun_is (ps : List Pt) (v : Value) (x1 x2 : Int) (n : Nat) (w : World) (hv : RdP w v ps) (hm : okMap ps = true) (hx : unitQ x1 x2 = true) (hn : n ≤ 60) :
    Calls Tryz.prog 123 #[v, .agg #[.int .i64 x1, .int .i64 x2], .int .i64 n] w (RetQ w (orbQ ps (x1, x2) n)) := by
  have HV := Lib.hid hv
  have HM := Lib.hid hm
  have HU := Lib.hid (orbQ_unit (x := (x1, x2)) hm hx)
  clear hv hm
  go_enter Tryz.func123, Tryz.ntmps123
  go_wp2_with fail
  go_name_world W0 hW
  have hB0 : Below w.heap.size w W0 := by rw [← hW]; go_grown
  have o0 : OwQ (w.heap.size + 1) 31 W0 (.slice (some ⟨w.heap.size + 1, 0, none⟩) 1 1) [(x1, x2)] := by
    rw [← hW]
    have h1 := OwQ.one (w.alloc (.cells #[.int .i64 x1, .int .i64 x2] 31)) (w.heap.size + 1) 31 x1 x2 (by simp)
    rw [World.size_alloc] at h1
    exact h1.keep (by go_grown)
  have HS0 := Lib.hid o0
  clear hW o0
  go_loopw [7] (fun out wr => RelRun ps (x1, x2) n w.heap.size W0 out wr) (fun out _ => n + 1 - lenOf out)
  case atStart => exact ⟨0, (x1, x2), Nat.zero_le _, rfl, rfl, HS0.out, Below.refl _ _⟩
  case round =>
    obtain ⟨k, ⟨y1, y2⟩, hk, hlen, hy, hown, hb⟩ := hrel
    obtain ⟨g, cap, rfl, hc1, hc2, hg1, hg2, hcell⟩ := hown.lit hlen (by omega)
    unfold maxLen at hc2
    obtain ⟨c0, c1⟩ := hcell k _ hy
    have HO := Lib.hid hown
    have HL := Lib.hid hlen
    have HY := Lib.hid hy
    have hu := HU.out k _ (List.mem_of_getElem? hy)
    clear hown hlen hy hcell
    by_cases hlt : k < n
    · rcases hz : valQ ps (y1, y2) with ⟨⟨z1, z2⟩, t⟩
      have HZ := Lib.hid hz
      have HUu := Lib.hid hu
      clear hz hu
      have b0 : ((k + 1 : Nat) : Int) ≤ (n : Int) := by omega
      have b1 : (k : Int) + 1 ≤ (n : Int) := by omega
      have b2 : ((k + 1 : Nat) : Int) - 1 = (k : Int) := by omega
      have b3 : (0 : Int) ≤ ((k + 1 : Nat) : Int) - 1 := by omega
      have b4 : ((k + 1 : Nat) : Int) - 1 < ((k + 1 : Nat) : Int) := by omega
      rcases t with _ | _
      · go_wp2_with fail
        refine (imAt_is ps v y1 y2 0 0 false _ (HV.out.keep (Below.trans hB0 hb)) HM.out HUu.out (atQ_no HZ.out)).mono ?_
        rintro e w1 ⟨rfl, hb1⟩
        have hz1 := hb1.size
        have HO1 := Lib.hid (HO.out.keep hb1)
        replace hb := Below.trans hb (hb1.mono (by omega))
        clear hb1 c0 c1 HO
        go_wp2_with fail
        go_ret
        refine ⟨_, rfl, ?_, Below.trans hB0 (Below.alloc hb (by omega) _)⟩
        rw [orbQ_stopped HL.out HY.out HZ.out hk]
        exact (HO1.out.keep (by go_grown)).low (by omega)
      · go_wp2_with fail
        refine (imAt_is ps v y1 y2 z1 z2 true _ (HV.out.keep (Below.trans hB0 hb)) HM.out HUu.out (atQ_yes HZ.out)).mono ?_
        rintro e w1 ⟨rfl, hb1⟩
        have hz1 := hb1.size
        have HO1 := Lib.hid (HO.out.keep hb1)
        replace hb := Below.trans hb (hb1.mono (by omega))
        clear hb1 c0 c1 HO
        go_wp2_with (at_builtin; refine append_q1g _ rfl _ _ rfl (w.heap.size + 1) _ (orbQ ps (x1, x2) k) rfl ?own _ _ z1 z2 rfl ?c0 ?c1 ?len ?base ?_)
        case own => exact HO1.out.keep (by go_grown)
        case c0 => simp [go_sem]
        case c1 => simp [go_sem]
        case len => rw [HL.out]; omega
        case base => go_size
        intro v' w' hown hg
        have hB : Below w.heap.size W0 w' := Below.grown (by go_grown) hg (by go_size) (fun k hk => Nat.le_of_succ_le (HO1.out.from hk))
        have HO2 := Lib.hid hown
        clear hown hg HO1 hb
        have hgo := orbQ_go HL.out HY.out HZ.out
        have hln : (orbQ ps (x1, x2) (k + 1)).length = k + 1 + 1 := by rw [hgo, List.length_append, HL.out]; rfl
        have hown : OwQ (w.heap.size + 1) 31 w' v' (orbQ ps (x1, x2) (k + 1)) := by rw [hgo]; exact HO2.out
        have hm1 : lenOf v' = k + 2 := by rw [OwQ.lenOf hown, hln]
        have HF := Lib.hid (And.intro hln (And.intro (show (orbQ ps (x1, x2) (k + 1))[k + 1]? = some (z1, z2) by rw [hgo]; exact append_last _ HL.out) (And.intro hown hm1)))
        clear hgo hln hown hm1
        go_wp2_with fail
        go_roundw
        case rel => exact ⟨k + 1, (z1, z2), by omega, HF.out.1, HF.out.2.1, HF.out.2.2.1, hB⟩
        case measure =>
          have := HF.out.2.2.2
          simp [lenOf] at *
          omega
    · obtain rfl : k = n := by omega
      have b0 : (k : Int) < ((k + 1 : Nat) : Int) := by omega
      go_wp2_with fail
      go_ret
      exact ⟨_, rfl, HO.out.low (by omega), Below.trans hB0 hb⟩

def isStartB (ps : List Pt) (x : Q) (n : Int) : Bool := okMap ps && (unitQ x.1 x.2 && decide (0 ≤ n ∧ n ≤ 60))

set_option maxHeartbeats 400000 in
theorem isStart_is (ps : List Pt) (v : Value) (x1 x2 n : Int) (t : Bool) (w : World) (hv : RdP w v ps) (hn : ps.length ≤ 1048576) (ht : isStartB ps (x1, x2) n = t) :
    Calls Tryz.prog 120 #[v, .agg #[.int .i64 x1, .int .i64 x2], .int .i64 n] w fun e w' => e = .returned (.bool t) ∧ Below w.heap.size w w' := by
  have HV := Lib.hid hv
  rcases hm : okMap ps with _ | _
  · obtain rfl : false = t := by rw [← ht]; unfold isStartB; rw [hm]; rfl
    have HM := Lib.hid hm
    clear hv ht hm
    go_enter Tryz.func120, Tryz.ntmps120
    go_wp2_with fail
    refine (isMap_is ps v false _ (HV.out.keep (by go_grown)) hn HM.out).mono ?_
    rintro e w1 ⟨rfl, hb⟩
    have hX : Below w.heap.size w w1 := nextX (by go_grown) hb
    clear hb
    go_wp2_with fail
    go_ret
    exact ⟨rfl, hX⟩
  · rcases hx : unitQ x1 x2 with _ | _
    · obtain rfl : false = t := by rw [← ht]; unfold isStartB; rw [hm]; simp only; rw [hx]; rfl
      have HM := Lib.hid hm
      have HX := Lib.hid hx
      clear hv ht hm hx
      go_enter Tryz.func120, Tryz.ntmps120
      go_wp2_with fail
      refine (isMap_is ps v true _ (HV.out.keep (by go_grown)) hn HM.out).mono ?_
      rintro e w1 ⟨rfl, hb⟩
      have hX : Below w.heap.size w w1 := nextX (by go_grown) hb
      have e0 : w1.cell? ⟨w.heap.size, 0, none⟩ = some (.int .i64 x1) := cellB hb (by simp [go_sem])
      have e1 : w1.cell? ⟨w.heap.size, 1, none⟩ = some (.int .i64 x2) := cellB hb (by simp [go_sem])
      clear hb
      go_wp2_with fail
      refine (isUnit_any x1 x2 _).mono ?_
      rintro e w2 ⟨he, hb⟩
      rw [HX.out] at he
      subst he
      replace hX := nextX hX hb
      clear hb e0 e1
      go_wp2_with fail
      go_ret
      exact ⟨rfl, hX⟩
    · have HM := Lib.hid hm
      have HX := Lib.hid hx
      have hd : decide (0 ≤ n ∧ n ≤ 60) = t := by rw [← ht]; unfold isStartB; rw [hm]; simp only; rw [hx]; rfl
      clear hv ht hm hx
      by_cases hr : 0 ≤ n ∧ n ≤ 60
      all_goals
        obtain rfl := (show _ = t from hd)
        first | simp only [hr, decide_true, and_self] | simp only [hr, decide_false] | skip
        go_enter Tryz.func120, Tryz.ntmps120
        go_wp2_with fail
        refine (isMap_is ps v true _ (HV.out.keep (by go_grown)) hn HM.out).mono ?_
        rintro e w1 ⟨rfl, hb⟩
        have hX : Below w.heap.size w w1 := nextX (by go_grown) hb
        have e0 : w1.cell? ⟨w.heap.size, 0, none⟩ = some (.int .i64 x1) := cellB hb (by simp [go_sem])
        have e1 : w1.cell? ⟨w.heap.size, 1, none⟩ = some (.int .i64 x2) := cellB hb (by simp [go_sem])
        clear hb
        go_wp2_with fail
        refine (isUnit_any x1 x2 _).mono ?_
        rintro e w2 ⟨he, hb⟩
        rw [HX.out] at he
        subst he
        replace hX := nextX hX hb
        clear hb e0 e1
        go_wp2_with fail
      · have : decide (0 ≤ n ∧ n ≤ 60) = true := by simpa using hr
        refine (within_yes n 0 60 (by omega) (by omega) _).mono ?_
        rintro e w3 ⟨rfl, rfl⟩
        go_wp2_with fail
        go_ret
        exact ⟨rfl, hX⟩
      · have : decide (0 ≤ n ∧ n ≤ 60) = false := by simpa using hr
        refine (within_no n 0 60 (by omega) _).mono ?_
        rintro e w3 ⟨rfl, rfl⟩
        go_wp2_with fail
        go_ret
        exact ⟨rfl, hX⟩

theorem orSteps_yes (n : Int) (h1 : 0 ≤ n) (h2 : n ≤ 60) (w : World) : Calls Tryz.prog 167 #[.int .i64 n] w fun e w' => e = .returned (.bool true) ∧ w' = w := by
  go_enter Tryz.func167, Tryz.ntmps167
  go_wp2_with fail
  refine (l1In_yes n 0 60 (by omega) (by omega) _).mono ?_
  rintro e w3 ⟨rfl, rfl⟩
  go_wp2_with fail
  go_ret
  exact ⟨rfl, rfl⟩
theorem orSteps_no (n : Int) (h : ¬ (0 ≤ n ∧ n ≤ 60)) (w : World) : Calls Tryz.prog 167 #[.int .i64 n] w fun e w' => e = .returned (.bool false) ∧ w' = w := by
  go_enter Tryz.func167, Tryz.ntmps167
  go_wp2_with fail
  refine (l1In_no n 0 60 (by omega) _).mono ?_
  rintro e w3 ⟨rfl, rfl⟩
  go_wp2_with fail
  go_ret
  exact ⟨rfl, rfl⟩

set_option maxHeartbeats 400000 in
theorem orAsked_is (ps : List Pt) (v : Value) (x1 x2 n : Int) (t : Bool) (w : World) (hv : RdP w v ps) (hn : ps.length ≤ 1048576) (ht : isStartB ps (x1, x2) n = t) :
    Calls Tryz.prog 122 #[v, .agg #[.int .i64 x1, .int .i64 x2], .int .i64 n] w fun e w' => e = .returned (.bool t) ∧ Below w.heap.size w w' := by
  have HV := Lib.hid hv
  rcases hm : okMap ps with _ | _
  · obtain rfl : false = t := by rw [← ht]; unfold isStartB; rw [hm]; rfl
    have HM := Lib.hid hm
    clear hv ht hm
    go_enter Tryz.func122, Tryz.ntmps122
    go_wp2_with fail
    refine (imGood_is ps v false _ (HV.out.keep (by go_grown)) hn HM.out).mono ?_
    rintro e w1 ⟨rfl, hb⟩
    have hX : Below w.heap.size w w1 := nextX (by go_grown) hb
    clear hb
    go_wp2_with fail
    go_ret
    exact ⟨rfl, hX⟩
  · rcases hx : unitQ x1 x2 with _ | _
    · obtain rfl : false = t := by rw [← ht]; unfold isStartB; rw [hm]; simp only; rw [hx]; rfl
      have HM := Lib.hid hm
      have HX := Lib.hid hx
      clear hv ht hm hx
      go_enter Tryz.func122, Tryz.ntmps122
      go_wp2_with fail
      refine (imGood_is ps v true _ (HV.out.keep (by go_grown)) hn HM.out).mono ?_
      rintro e w1 ⟨rfl, hb⟩
      have hX : Below w.heap.size w w1 := nextX (by go_grown) hb
      have e0 : w1.cell? ⟨w.heap.size, 0, none⟩ = some (.int .i64 x1) := cellB hb (by simp [go_sem])
      have e1 : w1.cell? ⟨w.heap.size, 1, none⟩ = some (.int .i64 x2) := cellB hb (by simp [go_sem])
      clear hb
      go_wp2_with fail
      refine (raUnit_any x1 x2 _).mono ?_
      rintro e w2 ⟨he, hb⟩
      rw [HX.out] at he
      subst he
      replace hX := nextX hX hb
      clear hb e0 e1
      go_wp2_with fail
      go_ret
      exact ⟨rfl, hX⟩
    · have HM := Lib.hid hm
      have HX := Lib.hid hx
      have hd : decide (0 ≤ n ∧ n ≤ 60) = t := by rw [← ht]; unfold isStartB; rw [hm]; simp only; rw [hx]; rfl
      clear hv ht hm hx
      by_cases hr : 0 ≤ n ∧ n ≤ 60
      all_goals
        obtain rfl := (show _ = t from hd)
        first | simp only [hr, decide_true, and_self] | simp only [hr, decide_false] | skip
        go_enter Tryz.func122, Tryz.ntmps122
        go_wp2_with fail
        refine (imGood_is ps v true _ (HV.out.keep (by go_grown)) hn HM.out).mono ?_
        rintro e w1 ⟨rfl, hb⟩
        have hX : Below w.heap.size w w1 := nextX (by go_grown) hb
        have e0 : w1.cell? ⟨w.heap.size, 0, none⟩ = some (.int .i64 x1) := cellB hb (by simp [go_sem])
        have e1 : w1.cell? ⟨w.heap.size, 1, none⟩ = some (.int .i64 x2) := cellB hb (by simp [go_sem])
        clear hb
        go_wp2_with fail
        refine (raUnit_any x1 x2 _).mono ?_
        rintro e w2 ⟨he, hb⟩
        rw [HX.out] at he
        subst he
        replace hX := nextX hX hb
        clear hb e0 e1
        go_wp2_with fail
      · have : decide (0 ≤ n ∧ n ≤ 60) = true := by simpa using hr
        refine (orSteps_yes n (by omega) (by omega) _).mono ?_
        rintro e w3 ⟨rfl, rfl⟩
        go_wp2_with fail
        go_ret
        exact ⟨rfl, hX⟩
      · have : decide (0 ≤ n ∧ n ≤ 60) = false := by simpa using hr
        refine (orSteps_no n (by omega) _).mono ?_
        rintro e w3 ⟨rfl, rfl⟩
        go_wp2_with fail
        go_ret
        exact ⟨rfl, hX⟩

end Go.Proofs.YtkeajfgcjmhmiaaGreat

namespace Go.Proofs.YtkeajfgcjmhmiaaGreat
open Go.RowKit

/-- What OrbitOf gives. -/
def orbOf (ps : List Pt) (x : Q) (n : Int) : List Q × Bool := if isStartB ps x n = true ∧ (orbQ ps x n.toNat).length = n.toNat + 1 then (orbQ ps x n.toNat, true) else ([], false)
def stepsQ (ps : List Pt) (x : Q) (n : Int) : Int × Bool := if isStartB ps x n = true then (((orbQ ps x n.toNat).length : Int) - 1, true) else (0, false)
def iterQ (ps : List Pt) (x : Q) (n : Int) : Int × Int × Bool := if (orbOf ps x n).2 = true then (((orbOf ps x n).1.getD n.toNat (0, 0)).1, ((orbOf ps x n).1.getD n.toNat (0, 0)).2, true) else (0, 0, false)
theorem isStartB_parts {ps : List Pt} {x : Q} {n : Int} (h : isStartB ps x n = true) : okMap ps = true ∧ unitQ x.1 x.2 = true ∧ 0 ≤ n ∧ n ≤ 60 := by
  unfold isStartB at h; simp only [Bool.and_eq_true, decide_eq_true_eq] at h; exact ⟨h.1, h.2.1, h.2.2⟩
theorem orbOf_a {ps : List Pt} {x : Q} {n : Int} (h : isStartB ps x n = false) : orbOf ps x n = ([], false) := by unfold orbOf; rw [if_neg (by rw [h]; simp)]
theorem orbOf_b {ps : List Pt} {x : Q} {k : Nat} (h : isStartB ps x k = true) (hf : (orbQ ps x k).length = k + 1) : orbOf ps x k = (orbQ ps x k, true) := by unfold orbOf; rw [if_pos ⟨h, hf⟩]; rfl
theorem orbOf_c {ps : List Pt} {x : Q} {k : Nat} (hf : ¬ (orbQ ps x k).length = k + 1) : orbOf ps x k = ([], false) := by unfold orbOf; rw [if_neg (by intro hh; exact hf hh.2)]
theorem orbOf_yes {ps : List Pt} {x : Q} {n : Int} {l : List Q} (h : orbOf ps x n = (l, true)) : ∃ k : Nat, n = k ∧ l.length = k + 1 ∧ k ≤ 60 := by
  unfold orbOf at h
  split at h
  · rename_i hh
    obtain ⟨-, -, h1, h2⟩ := isStartB_parts hh.1
    obtain ⟨k, rfl⟩ := Int.eq_ofNat_of_zero_le h1
    obtain ⟨rfl, -⟩ := Prod.mk.inj h
    exact ⟨k, rfl, by simpa using hh.2, by omega⟩
  · simp at h
theorem orbOf_no {ps : List Pt} {x : Q} {n : Int} {l : List Q} (h : orbOf ps x n = (l, false)) : l = [] := by
  unfold orbOf at h
  split at h
  · simp at h
  · simp at h; exact h
theorem orbOf_len {ps : List Pt} {x : Q} {n : Int} {l : List Q} {t : Bool} (h : orbOf ps x n = (l, t)) : l.length ≤ 1048576 := by
  cases t
  · rw [orbOf_no h]; simp
  · obtain ⟨k, -, h1, h2⟩ := orbOf_yes h; omega
theorem orbOf_unit {ps : List Pt} {x : Q} {n : Int} {l : List Q} {t : Bool} (h : orbOf ps x n = (l, t)) : ∀ y ∈ l, unitQ y.1 y.2 = true := by
  unfold orbOf at h
  split at h
  · rename_i hh
    obtain ⟨h1, h2, -, -⟩ := isStartB_parts hh.1
    obtain ⟨rfl, -⟩ := Prod.mk.inj h
    exact orbQ_unit h1 h2 _
  · obtain ⟨rfl, -⟩ := Prod.mk.inj h; simp

set_option maxHeartbeats 800000 in
theorem iOrbitOf_is (ps : List Pt) (v : Value) (x1 x2 n : Int) (l : List Q) (t : Bool) (hl : orbOf ps (x1, x2) n = (l, t)) (w : World) (hv : RdP w v ps) (hn : ps.length ≤ 1048576) :
    Calls Tryz.prog 44 #[v, .agg #[.int .i64 x1, .int .i64 x2], .int .i64 n] w (RetQB w l t) := by
  rcases hs : isStartB ps (x1, x2) n with _ | _
  · have HS := Lib.hid hs
    have HV := Lib.hid hv
    obtain ⟨rfl, rfl⟩ : [] = l ∧ false = t := by unfold orbOf at hl; rw [if_neg (by rw [hs]; simp)] at hl; exact Prod.mk.inj hl
    clear hl
    clear hs hv
    go_enter Tryz.func44, Tryz.ntmps44
    go_wp2_with fail
    refine (isStart_is ps v x1 x2 n false _ (HV.out.keep (by go_grown)) hn HS.out).mono ?_
    rintro e w1 ⟨rfl, hb⟩
    have hX : Below w.heap.size w w1 := nextX (by go_grown) hb
    have b00 : w1.cell? ⟨w.heap.size, 0, none⟩ = some (.int .i64 x1) := cellB hb (by simp [go_sem])
    have b01 : w1.cell? ⟨w.heap.size, 1, none⟩ = some (.int .i64 x2) := cellB hb (by simp [go_sem])
    have zb00 := lt_of_cell b00
    have hB : Below w.heap.size w w1 := hX
    clear hb hX
    go_wp2_with fail
    go_ret2
    exact ⟨_, rfl, World.ownsRow_nil _ _ _ _, hB⟩
  · have hm : okMap ps = true := by unfold isStartB at hs; simp only [Bool.and_eq_true] at hs; exact hs.1
    have hx : unitQ x1 x2 = true := by unfold isStartB at hs; simp only [Bool.and_eq_true] at hs; exact hs.2.1
    have h60 : 0 ≤ n ∧ n ≤ 60 := by unfold isStartB at hs; simp only [Bool.and_eq_true, decide_eq_true_eq] at hs; exact hs.2.2
    obtain ⟨k, rfl⟩ := Int.eq_ofNat_of_zero_le h60.1
    have hk : k ≤ 60 := by omega
    have hlen := orbQ_len ps (x1, x2) k
    have HS := Lib.hid hs
    have HV := Lib.hid hv
    have HM := Lib.hid hm
    have HX := Lib.hid hx
    by_cases hf : (orbQ ps (x1, x2) k).length = k + 1
    · have HF := Lib.hid hf
      obtain ⟨rfl, rfl⟩ : orbQ ps (x1, x2) k = l ∧ true = t := by unfold orbOf at hl; rw [if_pos ⟨hs, hf⟩] at hl; exact Prod.mk.inj hl
      clear hl
      clear hs hm hx hv h60 hlen
      go_enter Tryz.func44, Tryz.ntmps44
      go_wp2_with fail
      refine (isStart_is ps v x1 x2 k true _ (HV.out.keep (by go_grown)) hn HS.out).mono ?_
      rintro e w1 ⟨rfl, hb⟩
      have hX : Below w.heap.size w w1 := nextX (by go_grown) hb
      have b00 : w1.cell? ⟨w.heap.size, 0, none⟩ = some (.int .i64 x1) := cellB hb (by simp [go_sem])
      have b01 : w1.cell? ⟨w.heap.size, 1, none⟩ = some (.int .i64 x2) := cellB hb (by simp [go_sem])
      have zb00 := lt_of_cell b00
      have hB : Below w.heap.size w w1 := hX
      clear hb hX
      go_wp2_with fail
      refine (orbit_is ps v x1 x2 k _ (HV.out.keep (nextW hB (by go_grown))) HM.out HX.out hk).mono ?_
      rintro e w2 ⟨r, rfl, ow, hb⟩
      have hX : Below w1.heap.size w1 w2 := nextX (by go_grown) hb
      replace b00 := cellB hX b00
      replace b01 := cellB hX b01
      have zb00 := Nat.lt_of_lt_of_le zb00 hX.size
      replace hB := nextW hB hX
      clear hb hX
      obtain ⟨g, cap, rfl, hc1, hc2, hg1, hg2, hcell⟩ := ow.lit HF.out (by omega)
      unfold maxLen at hc2
      have HC := Lib.hid hcell
      have HO := Lib.hid ow
      clear hcell ow
      have b0 : (k : Int) < ((k + 1 : Nat) : Int) := by omega
      have HO2 := Lib.hid (HO.out.low (b := w.heap.size) (by omega))
      go_wp2_with fail
      go_ret2
      exact ⟨_, rfl, HO2.out, hB⟩
    · have HF := Lib.hid hf
      obtain ⟨rfl, rfl⟩ : [] = l ∧ false = t := by unfold orbOf at hl; rw [if_neg (by intro hh; exact hf hh.2)] at hl; exact Prod.mk.inj hl
      clear hl
      clear hs hm hx hv h60
      go_enter Tryz.func44, Tryz.ntmps44
      go_wp2_with fail
      refine (isStart_is ps v x1 x2 k true _ (HV.out.keep (by go_grown)) hn HS.out).mono ?_
      rintro e w1 ⟨rfl, hb⟩
      have hX : Below w.heap.size w w1 := nextX (by go_grown) hb
      have b00 : w1.cell? ⟨w.heap.size, 0, none⟩ = some (.int .i64 x1) := cellB hb (by simp [go_sem])
      have b01 : w1.cell? ⟨w.heap.size, 1, none⟩ = some (.int .i64 x2) := cellB hb (by simp [go_sem])
      have zb00 := lt_of_cell b00
      have hB : Below w.heap.size w w1 := hX
      clear hb hX
      go_wp2_with fail
      refine (orbit_is ps v x1 x2 k _ (HV.out.keep (nextW hB (by go_grown))) HM.out HX.out hk).mono ?_
      rintro e w2 ⟨r, rfl, ow, hb⟩
      have hX : Below w1.heap.size w1 w2 := nextX (by go_grown) hb
      replace b00 := cellB hX b00
      replace b01 := cellB hX b01
      have zb00 := Nat.lt_of_lt_of_le zb00 hX.size
      replace hB := nextW hB hX
      clear hb hX
      obtain ⟨m, hm⟩ : ∃ m, (orbQ ps (x1, x2) k).length = m := ⟨_, rfl⟩
      rw [hm] at hlen
      have hmk : m ≤ k := by have := HF.out; omega
      obtain ⟨g, cap, rfl, hc1, hc2, hg1, hg2, hcell⟩ := ow.lit hm (by omega)
      unfold maxLen at hc2
      clear hcell ow hm
      have b0 : (m : Int) ≤ (k : Int) := by omega
      go_wp2_with fail
      go_ret2
      exact ⟨_, rfl, World.ownsRow_nil _ _ _ _, hB⟩


set_option maxHeartbeats 800000 in
theorem sOrbitOf_is (ps : List Pt) (v : Value) (x1 x2 n : Int) (l : List Q) (t : Bool) (hl : orbOf ps (x1, x2) n = (l, t)) (w : World) (hv : RdP w v ps) (hn : ps.length ≤ 1048576) :
    Calls Tryz.prog 45 #[v, .agg #[.int .i64 x1, .int .i64 x2], .int .i64 n] w (RetQB w l t) := by
  rcases hs : isStartB ps (x1, x2) n with _ | _
  · have HS := Lib.hid hs
    have HV := Lib.hid hv
    obtain ⟨rfl, rfl⟩ : [] = l ∧ false = t := by unfold orbOf at hl; rw [if_neg (by rw [hs]; simp)] at hl; exact Prod.mk.inj hl
    clear hl
    clear hs hv
    go_enter Tryz.func45, Tryz.ntmps45
    go_wp2_with fail
    refine (orAsked_is ps v x1 x2 n false _ (HV.out.keep (by go_grown)) hn HS.out).mono ?_
    rintro e w1 ⟨rfl, hb⟩
    have hX : Below w.heap.size w w1 := nextX (by go_grown) hb
    have b00 : w1.cell? ⟨w.heap.size, 0, none⟩ = some (.int .i64 x1) := cellB hb (by simp [go_sem])
    have b01 : w1.cell? ⟨w.heap.size, 1, none⟩ = some (.int .i64 x2) := cellB hb (by simp [go_sem])
    have zb00 := lt_of_cell b00
    have hB : Below w.heap.size w w1 := hX
    clear hb hX
    go_wp2_with fail
    go_ret2
    exact ⟨_, rfl, World.ownsRow_nil _ _ _ _, hB⟩
  · have hm : okMap ps = true := by unfold isStartB at hs; simp only [Bool.and_eq_true] at hs; exact hs.1
    have hx : unitQ x1 x2 = true := by unfold isStartB at hs; simp only [Bool.and_eq_true] at hs; exact hs.2.1
    have h60 : 0 ≤ n ∧ n ≤ 60 := by unfold isStartB at hs; simp only [Bool.and_eq_true, decide_eq_true_eq] at hs; exact hs.2.2
    obtain ⟨k, rfl⟩ := Int.eq_ofNat_of_zero_le h60.1
    have hk : k ≤ 60 := by omega
    have hlen := orbQ_len ps (x1, x2) k
    have HS := Lib.hid hs
    have HV := Lib.hid hv
    have HM := Lib.hid hm
    have HX := Lib.hid hx
    by_cases hf : (orbQ ps (x1, x2) k).length = k + 1
    · have HF := Lib.hid hf
      obtain ⟨rfl, rfl⟩ : orbQ ps (x1, x2) k = l ∧ true = t := by unfold orbOf at hl; rw [if_pos ⟨hs, hf⟩] at hl; exact Prod.mk.inj hl
      clear hl
      clear hs hm hx hv h60 hlen
      go_enter Tryz.func45, Tryz.ntmps45
      go_wp2_with fail
      refine (orAsked_is ps v x1 x2 k true _ (HV.out.keep (by go_grown)) hn HS.out).mono ?_
      rintro e w1 ⟨rfl, hb⟩
      have hX : Below w.heap.size w w1 := nextX (by go_grown) hb
      have b00 : w1.cell? ⟨w.heap.size, 0, none⟩ = some (.int .i64 x1) := cellB hb (by simp [go_sem])
      have b01 : w1.cell? ⟨w.heap.size, 1, none⟩ = some (.int .i64 x2) := cellB hb (by simp [go_sem])
      have zb00 := lt_of_cell b00
      have hB : Below w.heap.size w w1 := hX
      clear hb hX
      go_wp2_with fail
      refine (orRun_is ps v x1 x2 k _ (HV.out.keep (nextW hB (by go_grown))) HM.out HX.out hk).mono ?_
      rintro e w2 ⟨r, rfl, ow, hb⟩
      have hX : Below w1.heap.size w1 w2 := nextX (by go_grown) hb
      replace b00 := cellB hX b00
      replace b01 := cellB hX b01
      have zb00 := Nat.lt_of_lt_of_le zb00 hX.size
      replace hB := nextW hB hX
      clear hb hX
      obtain ⟨g, cap, rfl, hc1, hc2, hg1, hg2, hcell⟩ := ow.lit HF.out (by omega)
      unfold maxLen at hc2
      have HC := Lib.hid hcell
      have HO := Lib.hid ow
      clear hcell ow
      have b0 : (k : Int) < ((k + 1 : Nat) : Int) := by omega
      have HO2 := Lib.hid (HO.out.low (b := w.heap.size) (by omega))
      go_wp2_with fail
      go_ret2
      exact ⟨_, rfl, HO2.out, hB⟩
    · have HF := Lib.hid hf
      obtain ⟨rfl, rfl⟩ : [] = l ∧ false = t := by unfold orbOf at hl; rw [if_neg (by intro hh; exact hf hh.2)] at hl; exact Prod.mk.inj hl
      clear hl
      clear hs hm hx hv h60
      go_enter Tryz.func45, Tryz.ntmps45
      go_wp2_with fail
      refine (orAsked_is ps v x1 x2 k true _ (HV.out.keep (by go_grown)) hn HS.out).mono ?_
      rintro e w1 ⟨rfl, hb⟩
      have hX : Below w.heap.size w w1 := nextX (by go_grown) hb
      have b00 : w1.cell? ⟨w.heap.size, 0, none⟩ = some (.int .i64 x1) := cellB hb (by simp [go_sem])
      have b01 : w1.cell? ⟨w.heap.size, 1, none⟩ = some (.int .i64 x2) := cellB hb (by simp [go_sem])
      have zb00 := lt_of_cell b00
      have hB : Below w.heap.size w w1 := hX
      clear hb hX
      go_wp2_with fail
      refine (orRun_is ps v x1 x2 k _ (HV.out.keep (nextW hB (by go_grown))) HM.out HX.out hk).mono ?_
      rintro e w2 ⟨r, rfl, ow, hb⟩
      have hX : Below w1.heap.size w1 w2 := nextX (by go_grown) hb
      replace b00 := cellB hX b00
      replace b01 := cellB hX b01
      have zb00 := Nat.lt_of_lt_of_le zb00 hX.size
      replace hB := nextW hB hX
      clear hb hX
      obtain ⟨m, hm⟩ : ∃ m, (orbQ ps (x1, x2) k).length = m := ⟨_, rfl⟩
      rw [hm] at hlen
      have hmk : m ≤ k := by have := HF.out; omega
      obtain ⟨g, cap, rfl, hc1, hc2, hg1, hg2, hcell⟩ := ow.lit hm (by omega)
      unfold maxLen at hc2
      clear hcell ow hm
      have b0 : (m : Int) ≤ (k : Int) := by omega
      go_wp2_with fail
      go_ret2
      exact ⟨_, rfl, World.ownsRow_nil _ _ _ _, hB⟩


set_option maxHeartbeats 800000 in
theorem iStepsInSize_is (ps : List Pt) (v : Value) (x1 x2 n : Int) (k0 : Int) (t : Bool) (hl : stepsQ ps (x1, x2) n = (k0, t)) (w : World) (hv : RdP w v ps) (hn : ps.length ≤ 1048576) :
    Calls Tryz.prog 48 #[v, .agg #[.int .i64 x1, .int .i64 x2], .int .i64 n] w fun e w' => e = .returned (.tuple #[.int .i64 k0, .bool t]) ∧ Below w.heap.size w w' := by
  rcases hs : isStartB ps (x1, x2) n with _ | _
  · have HS := Lib.hid hs
    have HV := Lib.hid hv
    obtain ⟨rfl, rfl⟩ : 0 = k0 ∧ false = t := by unfold stepsQ at hl; rw [if_neg (by rw [hs]; simp)] at hl; exact Prod.mk.inj hl
    clear hs hv hl
    go_enter Tryz.func48, Tryz.ntmps48
    go_wp2_with fail
    refine (isStart_is ps v x1 x2 n false _ (HV.out.keep (by go_grown)) hn HS.out).mono ?_
    rintro e w1 ⟨rfl, hb⟩
    have hX : Below w.heap.size w w1 := nextX (by go_grown) hb
    have b00 : w1.cell? ⟨w.heap.size, 0, none⟩ = some (.int .i64 x1) := cellB hb (by simp [go_sem])
    have b01 : w1.cell? ⟨w.heap.size, 1, none⟩ = some (.int .i64 x2) := cellB hb (by simp [go_sem])
    have zb00 := lt_of_cell b00
    have hB : Below w.heap.size w w1 := hX
    clear hb hX
    go_wp2_with fail
    go_ret2
    exact ⟨rfl, hB⟩
  · have hm : okMap ps = true := by unfold isStartB at hs; simp only [Bool.and_eq_true] at hs; exact hs.1
    have hx : unitQ x1 x2 = true := by unfold isStartB at hs; simp only [Bool.and_eq_true] at hs; exact hs.2.1
    have h60 : 0 ≤ n ∧ n ≤ 60 := by unfold isStartB at hs; simp only [Bool.and_eq_true, decide_eq_true_eq] at hs; exact hs.2.2
    obtain ⟨k, rfl⟩ := Int.eq_ofNat_of_zero_le h60.1
    have hk : k ≤ 60 := by omega
    have hlen := orbQ_len ps (x1, x2) k
    have HS := Lib.hid hs
    have HV := Lib.hid hv
    have HM := Lib.hid hm
    have HX := Lib.hid hx
    obtain ⟨rfl, rfl⟩ : ((orbQ ps (x1, x2) k).length : Int) - 1 = k0 ∧ true = t := by unfold stepsQ at hl; rw [if_pos hs] at hl; exact Prod.mk.inj hl
    clear hs hm hx hv h60 hl
    go_enter Tryz.func48, Tryz.ntmps48
    go_wp2_with fail
    refine (isStart_is ps v x1 x2 k true _ (HV.out.keep (by go_grown)) hn HS.out).mono ?_
    rintro e w1 ⟨rfl, hb⟩
    have hX : Below w.heap.size w w1 := nextX (by go_grown) hb
    have b00 : w1.cell? ⟨w.heap.size, 0, none⟩ = some (.int .i64 x1) := cellB hb (by simp [go_sem])
    have b01 : w1.cell? ⟨w.heap.size, 1, none⟩ = some (.int .i64 x2) := cellB hb (by simp [go_sem])
    have zb00 := lt_of_cell b00
    have hB : Below w.heap.size w w1 := hX
    clear hb hX
    go_wp2_with fail
    refine (orbit_is ps v x1 x2 k _ (HV.out.keep (nextW hB (by go_grown))) HM.out HX.out hk).mono ?_
    rintro e w2 ⟨r, rfl, ow, hb⟩
    have hX : Below w1.heap.size w1 w2 := nextX (by go_grown) hb
    replace b00 := cellB hX b00
    replace b01 := cellB hX b01
    have zb00 := Nat.lt_of_lt_of_le zb00 hX.size
    replace hB := nextW hB hX
    clear hb hX
    obtain ⟨m, hmm⟩ : ∃ m, (orbQ ps (x1, x2) k).length = m := ⟨_, rfl⟩
    rw [hmm] at hlen
    have HMM := Lib.hid hmm
    obtain ⟨g, cap, rfl, hc1, hc2, hg1, hg2, hcell⟩ := ow.lit hmm (by omega)
    unfold maxLen at hc2
    clear hcell ow hmm
    go_wp2_with fail
    go_ret2
    exact ⟨by rw [HMM.out]; rfl, hB⟩


set_option maxHeartbeats 800000 in
theorem sStepsInSize_is (ps : List Pt) (v : Value) (x1 x2 n : Int) (k0 : Int) (t : Bool) (hl : stepsQ ps (x1, x2) n = (k0, t)) (w : World) (hv : RdP w v ps) (hn : ps.length ≤ 1048576) :
    Calls Tryz.prog 49 #[v, .agg #[.int .i64 x1, .int .i64 x2], .int .i64 n] w fun e w' => e = .returned (.tuple #[.int .i64 k0, .bool t]) ∧ Below w.heap.size w w' := by
  rcases hs : isStartB ps (x1, x2) n with _ | _
  · have HS := Lib.hid hs
    have HV := Lib.hid hv
    obtain ⟨rfl, rfl⟩ : 0 = k0 ∧ false = t := by unfold stepsQ at hl; rw [if_neg (by rw [hs]; simp)] at hl; exact Prod.mk.inj hl
    clear hs hv hl
    go_enter Tryz.func49, Tryz.ntmps49
    go_wp2_with fail
    refine (orAsked_is ps v x1 x2 n false _ (HV.out.keep (by go_grown)) hn HS.out).mono ?_
    rintro e w1 ⟨rfl, hb⟩
    have hX : Below w.heap.size w w1 := nextX (by go_grown) hb
    have b00 : w1.cell? ⟨w.heap.size, 0, none⟩ = some (.int .i64 x1) := cellB hb (by simp [go_sem])
    have b01 : w1.cell? ⟨w.heap.size, 1, none⟩ = some (.int .i64 x2) := cellB hb (by simp [go_sem])
    have zb00 := lt_of_cell b00
    have hB : Below w.heap.size w w1 := hX
    clear hb hX
    go_wp2_with fail
    go_ret2
    exact ⟨rfl, hB⟩
  · have hm : okMap ps = true := by unfold isStartB at hs; simp only [Bool.and_eq_true] at hs; exact hs.1
    have hx : unitQ x1 x2 = true := by unfold isStartB at hs; simp only [Bool.and_eq_true] at hs; exact hs.2.1
    have h60 : 0 ≤ n ∧ n ≤ 60 := by unfold isStartB at hs; simp only [Bool.and_eq_true, decide_eq_true_eq] at hs; exact hs.2.2
    obtain ⟨k, rfl⟩ := Int.eq_ofNat_of_zero_le h60.1
    have hk : k ≤ 60 := by omega
    have hlen := orbQ_len ps (x1, x2) k
    have HS := Lib.hid hs
    have HV := Lib.hid hv
    have HM := Lib.hid hm
    have HX := Lib.hid hx
    obtain ⟨rfl, rfl⟩ : ((orbQ ps (x1, x2) k).length : Int) - 1 = k0 ∧ true = t := by unfold stepsQ at hl; rw [if_pos hs] at hl; exact Prod.mk.inj hl
    clear hs hm hx hv h60 hl
    go_enter Tryz.func49, Tryz.ntmps49
    go_wp2_with fail
    refine (orAsked_is ps v x1 x2 k true _ (HV.out.keep (by go_grown)) hn HS.out).mono ?_
    rintro e w1 ⟨rfl, hb⟩
    have hX : Below w.heap.size w w1 := nextX (by go_grown) hb
    have b00 : w1.cell? ⟨w.heap.size, 0, none⟩ = some (.int .i64 x1) := cellB hb (by simp [go_sem])
    have b01 : w1.cell? ⟨w.heap.size, 1, none⟩ = some (.int .i64 x2) := cellB hb (by simp [go_sem])
    have zb00 := lt_of_cell b00
    have hB : Below w.heap.size w w1 := hX
    clear hb hX
    go_wp2_with fail
    refine (orRun_is ps v x1 x2 k _ (HV.out.keep (nextW hB (by go_grown))) HM.out HX.out hk).mono ?_
    rintro e w2 ⟨r, rfl, ow, hb⟩
    have hX : Below w1.heap.size w1 w2 := nextX (by go_grown) hb
    replace b00 := cellB hX b00
    replace b01 := cellB hX b01
    have zb00 := Nat.lt_of_lt_of_le zb00 hX.size
    replace hB := nextW hB hX
    clear hb hX
    obtain ⟨m, hmm⟩ : ∃ m, (orbQ ps (x1, x2) k).length = m := ⟨_, rfl⟩
    rw [hmm] at hlen
    have HMM := Lib.hid hmm
    obtain ⟨g, cap, rfl, hc1, hc2, hg1, hg2, hcell⟩ := ow.lit hmm (by omega)
    unfold maxLen at hc2
    clear hcell ow hmm
    go_wp2_with fail
    go_ret2
    exact ⟨by rw [HMM.out]; rfl, hB⟩


set_option maxHeartbeats 800000 in
theorem sIterateMap_is (ps : List Pt) (v : Value) (x1 x2 n : Int) (a b : Int) (t : Bool) (hl : iterQ ps (x1, x2) n = (a, b, t)) (w : World) (hv : RdP w v ps) (hn : ps.length ≤ 1048576) :
    Calls Tryz.prog 47 #[v, .agg #[.int .i64 x1, .int .i64 x2], .int .i64 n] w (LowEnd a b t w) := by
  rcases hs : isStartB ps (x1, x2) n with _ | _
  · have HS := Lib.hid hs
    have HV := Lib.hid hv
    have ho := orbOf_a hs
    obtain ⟨rfl, rfl, rfl⟩ : 0 = a ∧ 0 = b ∧ false = t := by unfold iterQ at hl; rw [ho] at hl; simpa using hl
    clear ho
    clear hl
    clear hs hv
    go_enter Tryz.func47, Tryz.ntmps47
    go_wp2_with fail
    refine (orAsked_is ps v x1 x2 n false _ (HV.out.keep (by go_grown)) hn HS.out).mono ?_
    rintro e w1 ⟨rfl, hb⟩
    have hX : Below w.heap.size w w1 := nextX (by go_grown) hb
    have b00 : w1.cell? ⟨w.heap.size, 0, none⟩ = some (.int .i64 x1) := cellB hb (by simp [go_sem])
    have b01 : w1.cell? ⟨w.heap.size, 1, none⟩ = some (.int .i64 x2) := cellB hb (by simp [go_sem])
    have r10 : Slot w1 (w.heap.size + 1) 0 (.int .i64 0) := slotB hb ⟨by simp [go_sem], by simp [go_sem]⟩
    have r11 : Slot w1 (w.heap.size + 1) 1 (.int .i64 0) := slotB hb ⟨by simp [go_sem], by simp [go_sem]⟩
    have zb00 := lt_of_cell b00
    have zr10 := lt_of_cell r10.1
    have hB : Below w.heap.size w w1 := hX
    clear hb hX
    obtain ⟨q0, k0⟩ := r10
    obtain ⟨q1, k1⟩ := r11
    go_wp2_with fail
    refine bodyPost_ret (v := .tuple #[.agg #[.int .i64 0, .int .i64 0], .bool false]) (by first | (simp [results, Tryz.results47, go_sem, q0, q1]; done) | (simp [results, Tryz.results47, go_sem, q0, q1, zr10]; done)) rfl ⟨rfl, ?_⟩
    go_grown
  · have hm : okMap ps = true := by unfold isStartB at hs; simp only [Bool.and_eq_true] at hs; exact hs.1
    have hx : unitQ x1 x2 = true := by unfold isStartB at hs; simp only [Bool.and_eq_true] at hs; exact hs.2.1
    have h60 : 0 ≤ n ∧ n ≤ 60 := by unfold isStartB at hs; simp only [Bool.and_eq_true, decide_eq_true_eq] at hs; exact hs.2.2
    obtain ⟨k, rfl⟩ := Int.eq_ofNat_of_zero_le h60.1
    have hk : k ≤ 60 := by omega
    have hlen := orbQ_len ps (x1, x2) k
    have HS := Lib.hid hs
    have HV := Lib.hid hv
    have HM := Lib.hid hm
    have HX := Lib.hid hx
    by_cases hf : (orbQ ps (x1, x2) k).length = k + 1
    · have HF := Lib.hid hf
      have ho := orbOf_b hs hf
      obtain ⟨⟨a1, a2⟩, hq⟩ : ∃ q, (orbQ ps (x1, x2) k)[k]? = some q := ⟨_, List.getElem?_eq_getElem (by omega)⟩
      obtain ⟨rfl, rfl, rfl⟩ : a1 = a ∧ a2 = b ∧ true = t := by unfold iterQ at hl; rw [ho] at hl; simp only [if_true, List.getD_eq_getElem?_getD, Int.toNat_natCast, hq, Option.getD_some] at hl; simpa using hl
      have HQ := Lib.hid hq
      clear hq ho
      clear hl
      clear hs hm hx hv h60 hlen
      go_enter Tryz.func47, Tryz.ntmps47
      go_wp2_with fail
      refine (orAsked_is ps v x1 x2 k true _ (HV.out.keep (by go_grown)) hn HS.out).mono ?_
      rintro e w1 ⟨rfl, hb⟩
      have hX : Below w.heap.size w w1 := nextX (by go_grown) hb
      have b00 : w1.cell? ⟨w.heap.size, 0, none⟩ = some (.int .i64 x1) := cellB hb (by simp [go_sem])
      have b01 : w1.cell? ⟨w.heap.size, 1, none⟩ = some (.int .i64 x2) := cellB hb (by simp [go_sem])
      have r10 : Slot w1 (w.heap.size + 1) 0 (.int .i64 0) := slotB hb ⟨by simp [go_sem], by simp [go_sem]⟩
      have r11 : Slot w1 (w.heap.size + 1) 1 (.int .i64 0) := slotB hb ⟨by simp [go_sem], by simp [go_sem]⟩
      have zb00 := lt_of_cell b00
      have zr10 := lt_of_cell r10.1
      have hB : Below w.heap.size w w1 := hX
      clear hb hX
      go_wp2_with fail
      refine (orRun_is ps v x1 x2 k _ (HV.out.keep (nextW hB (by go_grown))) HM.out HX.out hk).mono ?_
      rintro e w2 ⟨r, rfl, ow, hb⟩
      have hX : Below w1.heap.size w1 w2 := nextX (by go_grown) hb
      replace b00 := cellB hX b00
      replace b01 := cellB hX b01
      replace r10 := slotB hX r10
      replace r11 := slotB hX r11
      have zb00 := Nat.lt_of_lt_of_le zb00 hX.size
      have zr10 := Nat.lt_of_lt_of_le zr10 hX.size
      replace hB := nextW hB hX
      clear hb hX
      obtain ⟨g, cap, rfl, hc1, hc2, hg1, hg2, hcell⟩ := ow.lit HF.out (by omega)
      unfold maxLen at hc2
      have HC := Lib.hid hcell
      have HO := Lib.hid ow
      clear hcell ow
      have b0 : (k : Int) < ((k + 1 : Nat) : Int) := by omega
      obtain ⟨c0, c1⟩ := HC.out _ _ HQ.out
      have b1 : (0 : Int) ≤ (k : Int) := by omega
      have b2 : ((k : Int)).toNat = k := by omega
      obtain ⟨q0, k0⟩ := r10
      obtain ⟨q1, k1⟩ := r11
      go_wp2_with fail
      refine bodyPost_ret (v := .tuple #[.agg #[.int .i64 a1, .int .i64 a2], .bool true]) (by first | (simp [results, Tryz.results47, go_sem, q0, q1]; done) | (simp [results, Tryz.results47, go_sem, q0, q1, zr10]; done)) rfl ⟨rfl, ?_⟩
      go_grown
    · have HF := Lib.hid hf
      have ho := orbOf_c hf
      obtain ⟨rfl, rfl, rfl⟩ : 0 = a ∧ 0 = b ∧ false = t := by unfold iterQ at hl; rw [ho] at hl; simpa using hl
      clear ho
      clear hl
      clear hs hm hx hv h60
      go_enter Tryz.func47, Tryz.ntmps47
      go_wp2_with fail
      refine (orAsked_is ps v x1 x2 k true _ (HV.out.keep (by go_grown)) hn HS.out).mono ?_
      rintro e w1 ⟨rfl, hb⟩
      have hX : Below w.heap.size w w1 := nextX (by go_grown) hb
      have b00 : w1.cell? ⟨w.heap.size, 0, none⟩ = some (.int .i64 x1) := cellB hb (by simp [go_sem])
      have b01 : w1.cell? ⟨w.heap.size, 1, none⟩ = some (.int .i64 x2) := cellB hb (by simp [go_sem])
      have r10 : Slot w1 (w.heap.size + 1) 0 (.int .i64 0) := slotB hb ⟨by simp [go_sem], by simp [go_sem]⟩
      have r11 : Slot w1 (w.heap.size + 1) 1 (.int .i64 0) := slotB hb ⟨by simp [go_sem], by simp [go_sem]⟩
      have zb00 := lt_of_cell b00
      have zr10 := lt_of_cell r10.1
      have hB : Below w.heap.size w w1 := hX
      clear hb hX
      go_wp2_with fail
      refine (orRun_is ps v x1 x2 k _ (HV.out.keep (nextW hB (by go_grown))) HM.out HX.out hk).mono ?_
      rintro e w2 ⟨r, rfl, ow, hb⟩
      have hX : Below w1.heap.size w1 w2 := nextX (by go_grown) hb
      replace b00 := cellB hX b00
      replace b01 := cellB hX b01
      replace r10 := slotB hX r10
      replace r11 := slotB hX r11
      have zb00 := Nat.lt_of_lt_of_le zb00 hX.size
      have zr10 := Nat.lt_of_lt_of_le zr10 hX.size
      replace hB := nextW hB hX
      clear hb hX
      obtain ⟨m, hm⟩ : ∃ m, (orbQ ps (x1, x2) k).length = m := ⟨_, rfl⟩
      rw [hm] at hlen
      have hmk : m ≤ k := by have := HF.out; omega
      obtain ⟨g, cap, rfl, hc1, hc2, hg1, hg2, hcell⟩ := ow.lit hm (by omega)
      unfold maxLen at hc2
      clear hcell ow hm
      have b0 : (m : Int) ≤ (k : Int) := by omega
      obtain ⟨q0, k0⟩ := r10
      obtain ⟨q1, k1⟩ := r11
      go_wp2_with fail
      refine bodyPost_ret (v := .tuple #[.agg #[.int .i64 0, .int .i64 0], .bool false]) (by first | (simp [results, Tryz.results47, go_sem, q0, q1]; done) | (simp [results, Tryz.results47, go_sem, q0, q1, zr10]; done)) rfl ⟨rfl, ?_⟩
      go_grown


set_option maxHeartbeats 800000 in
theorem iIterateMap_is (ps : List Pt) (v : Value) (x1 x2 n : Int) (a b : Int) (t : Bool) (hl : iterQ ps (x1, x2) n = (a, b, t)) (w : World) (hv : RdP w v ps) (hn : ps.length ≤ 1048576) :
    Calls Tryz.prog 46 #[v, .agg #[.int .i64 x1, .int .i64 x2], .int .i64 n] w (LowEnd a b t w) := by
  rcases ho : orbOf ps (x1, x2) n with ⟨l, tt⟩
  have HL := Lib.hid ho
  have HV := Lib.hid hv
  rcases tt with _ | _
  · obtain ⟨rfl, rfl, rfl⟩ : 0 = a ∧ 0 = b ∧ false = t := by unfold iterQ at hl; rw [ho] at hl; simpa using hl
    clear hv ho hl
    go_enter Tryz.func46, Tryz.ntmps46
    go_wp2_with fail
    refine (iOrbitOf_is ps v x1 x2 n l false HL.out _ (HV.out.keep (by go_grown)) hn).mono ?_
    rintro e w1 ⟨r, rfl, -, hb⟩
    have hX : Below w.heap.size w w1 := nextX (by go_grown) hb
    have b00 : w1.cell? ⟨w.heap.size, 0, none⟩ = some (.int .i64 x1) := cellB hb (by simp [go_sem])
    have b01 : w1.cell? ⟨w.heap.size, 1, none⟩ = some (.int .i64 x2) := cellB hb (by simp [go_sem])
    have r10 : Slot w1 (w.heap.size + 1) 0 (.int .i64 0) := slotB hb ⟨by simp [go_sem], by simp [go_sem]⟩
    have r11 : Slot w1 (w.heap.size + 1) 1 (.int .i64 0) := slotB hb ⟨by simp [go_sem], by simp [go_sem]⟩
    have zb00 := lt_of_cell b00
    have zr10 := lt_of_cell r10.1
    have hB : Below w.heap.size w w1 := hX
    clear hb hX
    obtain ⟨q0, k0⟩ := r10
    obtain ⟨q1, k1⟩ := r11
    go_wp2_with fail
    refine bodyPost_ret (v := .tuple #[.agg #[.int .i64 0, .int .i64 0], .bool false]) (by first | (simp [results, Tryz.results46, go_sem, q0, q1]; done) | (simp [results, Tryz.results46, go_sem, q0, q1, zr10]; done)) rfl ⟨rfl, ?_⟩
    go_grown
  · obtain ⟨k, rfl, hlen, hk⟩ := orbOf_yes ho
    obtain ⟨⟨a1, a2⟩, hq⟩ : ∃ q, l[k]? = some q := ⟨_, List.getElem?_eq_getElem (by omega)⟩
    obtain ⟨rfl, rfl, rfl⟩ : a1 = a ∧ a2 = b ∧ true = t := by unfold iterQ at hl; rw [ho] at hl; simp only [if_true, List.getD_eq_getElem?_getD, Int.toNat_natCast, hq, Option.getD_some] at hl; simpa using hl
    have HQ := Lib.hid hq
    clear hv ho hl hq
    go_enter Tryz.func46, Tryz.ntmps46
    go_wp2_with fail
    refine (iOrbitOf_is ps v x1 x2 k l true HL.out _ (HV.out.keep (by go_grown)) hn).mono ?_
    rintro e w1 ⟨r, rfl, ow, hb⟩
    have hX : Below w.heap.size w w1 := nextX (by go_grown) hb
    have b00 : w1.cell? ⟨w.heap.size, 0, none⟩ = some (.int .i64 x1) := cellB hb (by simp [go_sem])
    have b01 : w1.cell? ⟨w.heap.size, 1, none⟩ = some (.int .i64 x2) := cellB hb (by simp [go_sem])
    have r10 : Slot w1 (w.heap.size + 1) 0 (.int .i64 0) := slotB hb ⟨by simp [go_sem], by simp [go_sem]⟩
    have r11 : Slot w1 (w.heap.size + 1) 1 (.int .i64 0) := slotB hb ⟨by simp [go_sem], by simp [go_sem]⟩
    have zb00 := lt_of_cell b00
    have zr10 := lt_of_cell r10.1
    have hB : Below w.heap.size w w1 := hX
    clear hb hX
    obtain ⟨g, cap, rfl, hc1, hc2, hg1, hg2, hcell⟩ := ow.lit hlen (by omega)
    unfold maxLen at hc2
    obtain ⟨c0, c1⟩ := hcell _ _ HQ.out
    clear hcell ow
    have b0 : (k : Int) < ((k + 1 : Nat) : Int) := by omega
    have b1 : (0 : Int) ≤ (k : Int) := by omega
    have b2 : ((k : Int)).toNat = k := by omega
    obtain ⟨q0, k0⟩ := r10
    obtain ⟨q1, k1⟩ := r11
    go_wp2_with fail
    refine bodyPost_ret (v := .tuple #[.agg #[.int .i64 a1, .int .i64 a2], .bool true]) (by first | (simp [results, Tryz.results46, go_sem, q0, q1]; done) | (simp [results, Tryz.results46, go_sem, q0, q1, zr10]; done)) rfl ⟨rfl, ?_⟩
    go_grown


end Go.Proofs.YtkeajfgcjmhmiaaGreat
