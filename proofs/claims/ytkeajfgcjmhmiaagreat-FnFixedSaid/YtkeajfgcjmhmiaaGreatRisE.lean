/- rising and bothAt of the program: fractions in increasing order, each once. -/
import Derived.Test.YtkeajfgcjmhmiaaGreatRiseA
import Derived.Test.YtkeajfgcjmhmiaaGreatRisD
import Derived.Test.YtkeajfgcjmhmiaaGreatAppQ
namespace Go.Proofs.YtkeajfgcjmhmiaaGreat
open Go.RowKit

theorem compact_nil (w : World) : Calls Tryz.prog 181 #[.slice none 0 0] w fun e w' => e = .returned (.slice none 0 0) ∧ w' = w := by
  go_enter Tryz.func181, Tryz.ntmps181
  go_wp2_with fail
  go_ret
  exact ⟨rfl, rfl⟩

/-- What rising leaves: a row in the block that the list had. -/
def RiseEnd (base : Nat) (e : TypeId) (v : Value) (qs : List Q) (w : World) (x : Ending) (w' : World) : Prop :=
  ∃ r, x = .returned r ∧ OwQ base e w' r (setQ qs) ∧ r.ownBlock = v.ownBlock ∧ ∀ g, (∀ b, v.ownBlock = some b → b = g) → But g w w'

theorem rising_is (base : Nat) (v : Value) (qs : List Q) (w : World) (h : OwQ base 31 w v qs) (ho : OkL qs) (hn : qs.length ≤ 1000000000) :
    Calls Tryz.prog 154 #[v] w (RiseEnd base 31 v qs w) := by
  have HW := Lib.hid h
  rcases h.2 with ⟨rfl, hz⟩ | ⟨g, cap, cur, rfl, hb, hh, hle, hm, hc, ht⟩
  · obtain rfl := List.eq_nil_of_length_eq_zero hz
    have hcon := AnyF.slices_SortFunc_none Tryz.sortQ none 0 (.func (.func 160) #[] #[]) w
    change Calls Tryz.prog 180 _ _ _ at hcon
    clear h hz
    go_enter Tryz.func154, Tryz.ntmps154
    go_wp2_with fail
    refine hcon.mono ?_
    rintro e w' ⟨rfl, rfl⟩
    go_wp2_with fail
    refine (compact_nil _).mono ?_
    rintro e w' ⟨rfl, rfl⟩
    go_wp2_with fail
    go_ret
    exact ⟨_, rfl, HW.out, rfl, fun g _ => But.refl _ _⟩
  · have HH := Lib.hid (And.intro hle hm)
    clear h hb hh hc ht hle hm cur
    go_enter Tryz.func154, Tryz.ntmps154
    go_wp2_with fail
    refine (sort_is base _ qs w HW.out ho hn).mono ?_
    rintro e w1 ⟨rfl, rs, hown, hlen, hmem, hp, hok, hbut⟩
    have HO := Lib.hid hown
    have HS := Lib.hid (setQ_of (r := compQ rs) ho (compQ_up hok hp) (fun x => by rw [compQ_mem, hmem]))
    have HB := Lib.hid hbut
    clear hown hmem hp hok hbut
    go_wp2_with fail
    rw [← hlen]
    refine (compact_is base g cap rs w1 (by rw [hlen]; exact HO.out) (by have := HH.out.1; omega) HH.out.2).mono ?_
    rintro e w2 ⟨rfl, hown, hb2⟩
    rw [HS.out] at hown
    rw [HS.out]
    have HO2 := Lib.hid (And.intro hown hb2)
    clear hown hb2
    go_wp2_with fail
    go_ret
    refine ⟨_, rfl, HO2.out.1, rfl, fun k hk => ?_⟩
    obtain rfl := hk g rfl
    exact (HB.out g (fun b hb => by simpa [Value.ownBlock] using hb.symm)).trans HO2.out.2

/-- The X of two maps. -/
def bothQ (f g : List Pt) : List Q := setQ (f.map (·.1) ++ g.map (·.1))
theorem okL_xs {ps : List Pt} (h : okMap ps = true) : OkL (ps.map (·.1)) := fun q hq => by
  obtain ⟨p, hp, rfl⟩ := List.mem_map.1 hq
  obtain ⟨i, hi⟩ := List.getElem?_of_mem hp
  exact unitQ_ok (coordQ_unit (okMap_coord h hi).1)
theorem OkL.app {a b : List Q} (h : OkL a) (k : OkL b) : OkL (a ++ b) := fun q hq => by
  rcases List.mem_append.1 hq with hq | hq
  · exact h q hq
  · exact k q hq

set_option maxRecDepth 100000 in
set_option maxHeartbeats 1600000 in
theorem bothAt_is (f g : List Pt) (vf vg : Value) (w : World) (hf : RdP w vf f) (hg : RdP w vg g) (mf : okMap f = true) (mg : okMap g = true) :
    Calls Tryz.prog 89 #[vf, vg] w (RetQ w (bothQ f g)) := by
  have HF := Lib.hid hf
  have HG := Lib.hid hg
  have l1 := okMap_len mf
  have l2 := okMap_len mg
  have o1 := okL_xs mf
  have o2 := okL_xs mg
  clear hf hg mf mg
  go_enter Tryz.func89, Tryz.ntmps89
  go_wp2_with fail
  refine (xsOf_any f _ w HF.out (by omega)).mono ?_
  rintro e w1 ⟨r1, rfl, os1, hb1⟩
  have H1 := Lib.hid os1
  have B1 := Lib.hid hb1
  have z1 := hb1.size
  clear os1 hb1
  go_wp2_with fail
  refine (xsOf_any g _ w1 (HG.out.keep B1.out) (by omega)).mono ?_
  rintro e w2 ⟨r2, rfl, os2, hb2⟩
  have H2 := Lib.hid os2
  have B2 := Lib.hid hb2
  have z2 := hb2.size
  clear os2 hb2
  have hL1 : RdQ w2 r2 (g.map (·.1)) := H2.out.read
  have hO1 : OwQ w.heap.size 31 w2 r1 (f.map (·.1)) := H1.out.keep B2.out
  have hS1 : (f.map (·.1)).length + (g.map (·.1)).length ≤ 1000000 := by simp; omega
  have hz1 : w.heap.size ≤ w2.heap.size := by omega
  go_wp2_with (at_builtin; refine append_rd _ rfl (.tmp 6) (.tmp 8) rfl w.heap.size r1 r2 (f.map (·.1)) (g.map (·.1)) rfl hO1 rfl hL1 hS1 hz1 ?_; intro v' w' h1 h2)
  have H3 := Lib.hid h1
  have B3 := Lib.hid h2
  clear h1 h2
  refine (rising_is w.heap.size _ _ _ H3.out (o1.app o2) (by simp; omega)).mono ?_
  rintro e w4 ⟨r4, rfl, os4, he, hb4⟩
  have B4 : Below w.heap.size w w4 := by
    have b3 : Below w.heap.size w w' := Below.trans (Below.trans B1.out (B2.out.mono z1)) B3.out
    obtain ⟨k, hk, hk2⟩ : ∃ k, w.heap.size ≤ k ∧ ∀ b, v'.ownBlock = some b → b = k := by
      rcases hv : v'.ownBlock with _ | b
      · exact ⟨w.heap.size, Nat.le_refl _, fun b hb => by simp at hb⟩
      · exact ⟨b, (World.ownsRow.lt H3.out b hv).1, fun c hc => by simpa using hc.symm⟩
    exact But.below b3 (hb4 k hk2) hk b3.size
  have H4 := Lib.hid (And.intro os4 B4)
  clear os4 B4 hb4
  go_wp2_with fail
  go_ret
  exact ⟨_, rfl, H4.out.1, H4.out.2⟩

end Go.Proofs.YtkeajfgcjmhmiaaGreat
