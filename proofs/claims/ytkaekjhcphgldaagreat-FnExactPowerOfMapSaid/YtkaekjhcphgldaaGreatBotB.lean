/- The reference's values of two maps at all points of both. -/
import Derived.Test.YtkaekjhcphgldaaGreatBotA
import Derived.Test.YtkaekjhcphgldaaGreatMarks
namespace Go.Proofs.YtkaekjhcphgldaaGreat
open Go.RowKit

theorem OwQ.keepG {base : Nat} {e : TypeId} {w w' : World} {row : Option Nat} {v : Value} {qs : List Q} (h : OwQ base e w v qs) (hg : w.grownBy w' row) (hn : ∀ b, row = some b → v.ownBlock ≠ some b) : OwQ base e w' v qs := by
  obtain ⟨h1, h2⟩ := h
  refine ⟨h1, ?_⟩
  rcases h2 with h2 | ⟨g, cap, cur, rfl, hb, hh, h3⟩
  · exact .inl h2
  · refine .inr ⟨g, cap, cur, rfl, hb, (hg.block g (Array.getElem?_eq_some_iff.1 hh).1 (fun e => ?_)).trans hh, h3⟩
    exact hn g e.symm rfl
def valA (f g : List Pt) : List Q := (bothQ f g).map (fun x => (valQ f x).1)
def valB (f g : List Pt) : List Q := (bothQ f g).map (fun x => (valQ g x).1)
def fineV (f g : List Pt) (x : Q) : Bool := (valQ f x).2 && (valQ g x).2
def allFine (f g : List Pt) : Bool := (bothQ f g).all (fineV f g)
def FineTo (f g : List Pt) (k : Nat) : Prop := ∀ (i : Nat) (x : Q), i < k → (bothQ f g)[i]? = some x → fineV f g x = true
theorem FineTo.all {f g : List Pt} (h : FineTo f g (bothQ f g).length) : allFine f g = true := by
  unfold allFine
  rw [List.all_eq_true]
  intro x hx
  obtain ⟨i, hi⟩ := List.getElem?_of_mem hx
  exact h i x (List.getElem?_eq_some_iff.1 hi).1 hi
theorem FineTo.next {f g : List Pt} {k : Nat} {x : Q} (h : FineTo f g k) (hx : (bothQ f g)[k]? = some x) (hf : fineV f g x = true) : FineTo f g (k + 1) := fun i y hi hy => by
  by_cases e : i = k
  · subst e; rw [hx] at hy; cases hy; exact hf
  · exact h i y (by omega) hy
theorem fine_not {f g : List Pt} {k : Nat} {x : Q} (hx : (bothQ f g)[k]? = some x) (hf : fineV f g x = false) : allFine f g = false := by
  unfold allFine
  rw [List.all_eq_false]
  exact ⟨x, List.mem_of_getElem? hx, by rw [hf]; simp⟩
/-- What coValues gives. -/
def RetQQB (w : World) (ls ms : List Q) (t : Bool) (e : Ending) (w' : World) : Prop :=
  ∃ r s, e = .returned (.tuple #[r, s, .bool t]) ∧ OwQ w.heap.size 36 w' r ls ∧ OwQ w.heap.size 36 w' s ms ∧ Below w.heap.size w w'
theorem map_take_snoc {α β : Type} (F : α → β) {l : List α} {k : Nat} {x : α} (h : l[k]? = some x) : (l.map F).take (k + 1) = (l.map F).take k ++ [F x] := by
  refine take_snoc_get ?_
  rw [List.getElem?_map, h]; rfl
theorem atQ_of {ps : List Pt} {x : Q} {a b : Int} {t : Bool} (h : valQ ps x = ((a, b), t)) : ∃ c d, atQ ps x = (c, d, t) ∧ (t = true → c = a ∧ d = b) := by
  unfold atQ
  rw [h]
  cases t
  · exact ⟨0, 0, rfl, fun h => by cases h⟩
  · exact ⟨a, b, rfl, fun _ => ⟨rfl, rfl⟩⟩
def cvQ (f g : List Pt) : List Q × List Q × Bool := if allFine f g = true then (valA f g, valB f g, true) else ([], [], false)

def RelCv (f g : List Pt) (h : Nat) (W0 : World) (a b i : Value) (wr : World) : Prop :=
  ∃ k : Nat, k ≤ (bothQ f g).length ∧ i = .int .i64 k ∧ OwQ h 36 wr a ((valA f g).take k) ∧ OwQ h 36 wr b ((valB f g).take k) ∧ Sep a b ∧ FineTo f g k ∧ Below W0.heap.size W0 wr

set_option maxRecDepth 100000 in
set_option maxHeartbeats 6400000 in
theorem coValues_is (f g : List Pt) (vf vg : Value) (ra rb : List Q) (t : Bool) (hl : cvQ f g = (ra, rb, t)) (w : World) (hf : RdP w vf f) (hg : RdP w vg g) (mf : okMap f = true) (mg : okMap g = true) :
    Calls Tryz.prog 25 #[vf, vg] w (RetQQB w ra rb t) := by
  have HL := Lib.hid hl
  clear hl
  have HF := Lib.hid hf
  have HG := Lib.hid hg
  have l1 := okMap_len mf
  have l2 := okMap_len mg
  have MF := Lib.hid mf
  have MG := Lib.hid mg
  have hbl := bothQ_len f g
  have HUn := Lib.hid (bothQ_unit mf mg)
  have hla : (valA f g).length = (bothQ f g).length := by unfold valA; simp
  have hlb : (valB f g).length = (bothQ f g).length := by unfold valB; simp
  clear hf hg mf mg
  go_enter Tryz.func25, Tryz.ntmps25
  go_wp2_with fail
  refine (coBoth_is f g _ _ w HF.out HG.out MF.out MG.out).mono ?_
  rintro e w1 ⟨r1, rfl, os1, hb1⟩
  have HR := Lib.hid os1.read
  have B1 : Below w.heap.size w w1 := hb1
  clear os1 hb1
  obtain ⟨A, cc, rfl, hl1, hm1, hcell⟩ := HR.out
  have HC := Lib.hid hcell
  clear hcell HR
  unfold maxLen at hm1
  go_wp2_with fail
  go_name_world W0 hW
  rw [hW] at HC B1
  clear hW
  go_loopw [7, 8, 19] (fun a b i wr => RelCv f g W0.heap.size W0 a b i wr) (fun _ _ i _ => (bothQ f g).length - (intOf i).toNat)
  case atStart => exact ⟨0, Nat.zero_le _, rfl, World.ownsRow_nil _ _ _ _, World.ownsRow_nil _ _ _ _, fun b h => by simp [Value.ownBlock] at h, fun i x hi => absurd hi (Nat.not_lt_zero _), Below.refl _ _⟩
  case round =>
    obtain ⟨k, hk, rfl, howa, howb, hsep, hfine, hb⟩ := hrel
    have HA := Lib.hid howa
    have HB := Lib.hid howb
    have HSep := Lib.hid hsep
    have HFi := Lib.hid hfine
    have hB : Below w.heap.size w wr := Below.trans B1 (hb.mono B1.size)
    have hzr : w.heap.size ≤ wr.heap.size := hB.size
    have hoa : ∀ b, u7.ownBlock = some b → b < wr.heap.size := fun b h => (World.ownsRow.lt HA.out b h).2
    have hob : ∀ b, u8.ownBlock = some b → b < wr.heap.size := fun b h => (World.ownsRow.lt HB.out b h).2
    have HOa := Lib.hid hoa
    have HOb := Lib.hid hob
    clear howa howb hsep hfine hoa hob
    by_cases hlt : k < (bothQ f g).length
    · have hx := List.getElem?_eq_getElem hlt
      generalize (bothQ f g)[k] = x at *
      obtain ⟨g1, o1, rfl, hg1, hc⟩ := HC.out (by intro h; rw [h] at hlt; simp at hlt)
      obtain ⟨c0, c1⟩ := hc k _ hx
      have HUx := Lib.hid (HUn.out _ (List.mem_of_getElem? hx))
      have HX := Lib.hid hx
      have HSa := Lib.hid (map_take_snoc (fun x => (valQ f x).1) hx)
      have HSb := Lib.hid (map_take_snoc (fun x => (valQ g x).1) hx)
      obtain ⟨x1, x2⟩ := x
      obtain ⟨⟨⟨y1, y2⟩, ty⟩, hy⟩ : ∃ r, valQ f (x1, x2) = r := ⟨_, rfl⟩
      obtain ⟨⟨⟨z1, z2⟩, tz⟩, hz⟩ : ∃ r, valQ g (x1, x2) = r := ⟨_, rfl⟩
      simp only [hy] at HSa
      simp only [hz] at HSb
      obtain ⟨ya, yb, hya, hyt⟩ := atQ_of hy
      obtain ⟨za, zb, hza, hzt⟩ := atQ_of hz
      have HYa := Lib.hid hya
      have HZa := Lib.hid hza
      have HYt := Lib.hid hyt
      have HZt := Lib.hid hzt
      have HFv := Lib.hid (show fineV f g (x1, x2) = (ty && tz) from by unfold fineV; rw [hy, hz])
      replace c0 := cellB hb c0
      replace c1 := cellB hb c1
      have b0 : (0 : Int) ≤ (k : Int) := by omega
      have b1 : (k : Int) < ((bothQ f g).length : Int) := by omega
      have v2 : IntKind.i64.wrap ((k : Int) + 1) = (k : Int) + 1 := IntWalk.i64_in _ (by omega)
      have v3 : IntKind.i64.wrap (k : Int) = (k : Int) := IntWalk.i64_in _ (by omega)
      have hta : ((valA f g).take k).length ≤ 24 := by rw [List.length_take]; omega
      have htb : ((valB f g).take k).length ≤ 24 := by rw [List.length_take]; omega
      clear hx hc hy hz hya hyt hza hzt
      go_wp2_with fail
      refine (imAt_is f _ x1 x2 ya yb ty _ (HF.out.keep (nextX hB (by go_grown))) MF.out HUx.out HYa.out).mono ?_
      rintro e w2 ⟨rfl, hb'⟩
      have hX : Below wr.heap.size wr w2 := nextX (by go_grown) hb'
      have hX2 := hX
      replace HA := Lib.hid (HA.out.keep hX)
      replace HB := Lib.hid (HB.out.keep hX)
      have xb0 : w2.cell? ⟨wr.heap.size, 0, none⟩ = some (.int .i64 x1) := cellB hb' (by simp [go_sem])
      have xb1 : w2.cell? ⟨wr.heap.size, 1, none⟩ = some (.int .i64 x2) := cellB hb' (by simp [go_sem])
      have zxb0 := lt_of_cell xb0
      replace hB := nextW hB hX
      clear hb' hX c0 c1
      go_wp2_with fail
      refine (imAt_is g _ x1 x2 za zb tz _ (HG.out.keep (nextX hB (by go_grown))) MG.out HUx.out HZa.out).mono ?_
      rintro e w3 ⟨rfl, hb'⟩
      have hX : Below w2.heap.size w2 w3 := nextX (by go_grown) hb'
      have hX3 := hX
      have zz2 := zxb0
      replace HA := Lib.hid (HA.out.keep hX)
      replace HB := Lib.hid (HB.out.keep hX)
      replace xb0 := cellB hX xb0
      replace xb1 := cellB hX xb1
      have yb0 : w3.cell? ⟨w2.heap.size, 0, none⟩ = some (.int .i64 ya) := cellB hb' (by simp [go_sem])
      have yb1 : w3.cell? ⟨w2.heap.size, 1, none⟩ = some (.int .i64 yb) := cellB hb' (by simp [go_sem])
      have zyb0 := lt_of_cell yb0
      have zxb0 := Nat.lt_of_lt_of_le zxb0 hX.size
      replace hB := nextW hB hX
      clear hb' hX
      have hz3 : wr.heap.size < w3.heap.size := zxb0
      have hz2 : w2.heap.size < w3.heap.size := zyb0
      have hz4 : wr.heap.size ≤ w2.heap.size := Nat.le_of_lt zz2
      have hb3 : Below W0.heap.size W0 w3 := nextX (nextX hb hX2) hX3
      rcases hff : (ty && tz) with _ | _
      · have hno := fine_not HX.out (HFv.out.trans hff)
        obtain ⟨rfl, rfl, rfl⟩ : [] = ra ∧ [] = rb ∧ false = t := by have := HL.out; unfold cvQ at this; rw [if_neg (by rw [hno]; simp)] at this; simpa using this
        have hw : ty = false ∨ (ty = true ∧ tz = false) := by cases ty <;> cases tz <;> simp at hff ⊢
        rcases hw with rfl | ⟨rfl, rfl⟩
        · go_wp2_with fail
          go_ret3
          exact ⟨_, _, rfl, World.ownsRow_nil _ _ _ _, World.ownsRow_nil _ _ _ _, nextX hB (by go_grown)⟩
        · go_wp2_with fail
          go_ret3
          exact ⟨_, _, rfl, World.ownsRow_nil _ _ _ _, World.ownsRow_nil _ _ _ _, nextX hB (by go_grown)⟩
      · obtain ⟨rfl, rfl⟩ : ty = true ∧ tz = true := by cases ty <;> cases tz <;> simp at hff ⊢
        obtain ⟨rfl, rfl⟩ := HYt.out rfl
        obtain ⟨rfl, rfl⟩ := HZt.out rfl
        have hfx := HFv.out.trans hff
        have hw03 : W0.heap.size ≤ w3.heap.size := hb3.size
        go_wp2_with (at_builtin; refine append_q1f _ rfl (.tmp 41) (.tmp 43) rfl W0.heap.size _ ((valA f g).take k) rfl ?oa _ _ ya yb rfl ?c0a ?c1a ?la ?ba ?_)
        case oa => exact HA.out.keep (by go_grown)
        try (case c0a => simp [go_sem])
        try (case c1a => simp [go_sem])
        case la => omega
        case ba => go_size
        intro va w4 h4 g4 f4
        have HA4 := Lib.hid (show OwQ W0.heap.size 36 w4 va ((valA f g).take (k + 1)) from by unfold valA; rw [HSa.out]; exact h4)
        have gb4 : Below W0.heap.size W0 w3 := hb3
        have HB4 := Lib.hid ((HB.out.keep (by go_grown)).keepG g4 (fun b h => HSep.out b h))
        have zq0 : w4.cell? ⟨w3.heap.size, 0, none⟩ = some (.int .i64 za) := g4.cell (by simp [go_sem]) (fun e => by have := HOa.out w3.heap.size e.symm; omega)
        have zq1 : w4.cell? ⟨w3.heap.size, 1, none⟩ = some (.int .i64 zb) := g4.cell (by simp [go_sem]) (fun e => by have := HOa.out w3.heap.size e.symm; omega)
        have hz5 : w3.heap.size < w4.heap.size := lt_of_cell zq0
        have HS4 := Lib.hid (show Sep va u8 from fun b h1 h2 => by have := HOb.out b h2; rcases f4 b h1 with h | h; exact HSep.out b h h2; have : wr.heap.size < b := by { have : w3.heap.size ≤ b := Nat.le_trans (by go_size) h; omega }; omega)
        have hW4 : Below W0.heap.size W0 w4 := Below.grown (nextX hb3 (by go_grown)) g4 (by go_size) (fun b h => (World.ownsRow.lt HA.out b h).1)
        have hw04 : W0.heap.size ≤ w4.heap.size := hW4.size
        clear h4 g4 f4 HA HB xb0 xb1 yb0 yb1
        go_wp2_with (at_builtin; refine append_q1f _ rfl (.tmp 45) (.tmp 47) rfl W0.heap.size _ ((valB f g).take k) rfl ?ob _ _ za zb rfl ?c0b ?c1b ?lb ?bb ?_)
        case ob => exact HB4.out.keep (by go_grown)
        try (case c0b => simp [go_sem])
        try (case c1b => simp [go_sem])
        case lb => omega
        case bb => go_size
        intro vb w5 h5 g5 f5
        have HB5 := Lib.hid (show OwQ W0.heap.size 36 w5 vb ((valB f g).take (k + 1)) from by unfold valB; rw [HSb.out]; exact h5)
        have HA5 := Lib.hid ((HA4.out.keep (by go_grown)).keepG g5 (fun b h h2 => HS4.out b h2 h))
        have HS5 := Lib.hid (show Sep va vb from fun b h1 h2 => by have := (World.ownsRow.lt HA4.out b h1).2; rcases f5 b h2 with h | h; exact HS4.out b h1 h; have : w4.heap.size ≤ b := Nat.le_trans (by go_size) h; omega)
        have hW5 : Below W0.heap.size W0 w5 := Below.grown (nextX hW4 (by go_grown)) g5 (by go_size) (fun b h => (World.ownsRow.lt HB4.out b h).1)
        clear h5 g5 f5 HA4 HB4
        go_wp2_with fail
        go_roundw
        case rel => exact ⟨k + 1, by omega, by go_num, HA5.out, HB5.out, HS5.out, HFi.out.next HX.out hfx, hW5⟩
        case measure => simp [intOf]; omega
    · obtain rfl : k = (bothQ f g).length := by omega
      have hfa : allFine f g = true := HFi.out.all
      obtain ⟨rfl, rfl, rfl⟩ : valA f g = ra ∧ valB f g = rb ∧ true = t := by have := HL.out; unfold cvQ at this; rw [if_pos hfa] at this; simpa using this
      have HE := Lib.hid (show OwQ W0.heap.size 36 wr u7 (valA f g) by have := HA.out; rwa [List.take_of_length_le (by omega)] at this)
      have HE2 := Lib.hid (show OwQ W0.heap.size 36 wr u8 (valB f g) by have := HB.out; rwa [List.take_of_length_le (by omega)] at this)
      clear HA HB
      go_wp2_with fail
      go_ret3
      exact ⟨_, _, rfl, HE.out.low B1.size, HE2.out.low B1.size, hB⟩

end Go.Proofs.YtkaekjhcphgldaaGreat
