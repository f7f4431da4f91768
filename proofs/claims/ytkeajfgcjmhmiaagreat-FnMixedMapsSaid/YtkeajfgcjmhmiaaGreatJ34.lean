/- The program's GreatestDistance. -/
import Derived.Test.YtkeajfgcjmhmiaaGreatJ20
import Derived.Test.YtkeajfgcjmhmiaaGreatJ29
import Derived.Test.YtkeajfgcjmhmiaaGreatJ33
namespace Go.Proofs.YtkeajfgcjmhmiaaGreat
open Go.RowKit

/-- The greatest distance of the values at the first k places. -/
def greTo (f g : List Pt) (k : Nat) : Q × Bool := farN (valA f g) (valB f g) k
theorem greTo_next {f g : List Pt} {k : Nat} {x : Q} (h : (bothQ f g)[k]? = some x) : greTo f g (k + 1) = (bigQ (greTo f g k).1 (keepQ (absQ (valQ f x).1 (valQ g x).1)), (greTo f g k).2 || !(absQ (valQ f x).1 (valQ g x).1).2.2) := by
  unfold greTo
  refine farN_next ?_ ?_
  · unfold valA; rw [List.getElem?_map, h]; rfl
  · unfold valB; rw [List.getElem?_map, h]; rfl
/-- What GreatestDistance gives. -/
def greatQ (f g : List Pt) : Int × Int × Bool :=
  if (okMap f && okMap g) = true then (if (allFine f g && !(greTo f g (bothQ f g).length).2) = true then ((greTo f g (bothQ f g).length).1.1, (greTo f g (bothQ f g).length).1.2, true) else (0, 0, false)) else (0, 0, false)

def RelGd (f g : List Pt) (gc gm : Nat) (W0 : World) (i : Value) (wr : World) : Prop :=
  ∃ k : Nat, k ≤ (bothQ f g).length ∧ i = .int .i64 k ∧ Slot wr gm 0 (.int .i64 (greTo f g k).1.1) ∧ Slot wr gm 1 (.int .i64 (greTo f g k).1.2) ∧ Slot wr gc 0 (.bool (!fineTo2 f g k || (greTo f g k).2)) ∧ But2 gc gm W0 wr

set_option maxRecDepth 100000 in
set_option maxHeartbeats 6400000 in
theorem iGreatestDistance_is (f g : List Pt) (vf vg : Value) (a b : Int) (t : Bool) (hl : greatQ f g = (a, b, t)) (w : World) (hf : RdP w vf f) (hg : RdP w vg g) (hn : f.length ≤ 1048576) (hk : g.length ≤ 1048576) :
    Calls Tryz.prog 25 #[vf, vg] w (LowEnd a b t w) := by
  have HF := Lib.hid hf
  have HG := Lib.hid hg
  have HL := Lib.hid hl
  rcases hm1 : okMap f with _ | _
  · obtain ⟨rfl, rfl, rfl⟩ : 0 = a ∧ 0 = b ∧ false = t := by have := HL.out; unfold greatQ at this; rw [if_neg (by rw [hm1]; simp)] at this; simpa using this
    have HM := Lib.hid hm1
    clear hf hg hl hm1
    go_enter Tryz.func25, Tryz.ntmps25
    go_wp2_with fail
    refine (isMap_is f _ false _ (HF.out.keep (by go_grown)) hn HM.out).mono ?_
    rintro e w1 ⟨rfl, hb⟩
    have hX : Below w.heap.size w w1 := nextX (by go_grown) hb
    have r00 : Slot w1 (w.heap.size) 0 (.int .i64 0) := slotB hb ⟨by simp [go_sem], by simp [go_sem]⟩
    have r01 : Slot w1 (w.heap.size) 1 (.int .i64 0) := slotB hb ⟨by simp [go_sem], by simp [go_sem]⟩
    have zr00 := lt_of_cell r00.1
    have hB : Below w.heap.size w w1 := hX
    clear hb hX
    obtain ⟨q0, k0⟩ := r00
    obtain ⟨q1, k1⟩ := r01
    go_wp2_with fail
    refine bodyPost_ret (v := .tuple #[.agg #[.int .i64 0, .int .i64 0], .bool false]) (by first | (simp [results, Tryz.results25, go_sem, q0, q1]; done) | (simp [results, Tryz.results25, go_sem, q0, q1, zr00]; done)) rfl ⟨rfl, ?_⟩
    go_grown
  · rcases hm2 : okMap g with _ | _
    · obtain ⟨rfl, rfl, rfl⟩ : 0 = a ∧ 0 = b ∧ false = t := by have := HL.out; unfold greatQ at this; rw [if_neg (by rw [hm2]; simp)] at this; simpa using this
      have HM := Lib.hid hm1
      have HM2 := Lib.hid hm2
      clear hf hg hl hm1 hm2
      go_enter Tryz.func25, Tryz.ntmps25
      go_wp2_with fail
      refine (isMap_is f _ true _ (HF.out.keep (by go_grown)) hn HM.out).mono ?_
      rintro e w1 ⟨rfl, hb⟩
      have hX : Below w.heap.size w w1 := nextX (by go_grown) hb
      have r00 : Slot w1 (w.heap.size) 0 (.int .i64 0) := slotB hb ⟨by simp [go_sem], by simp [go_sem]⟩
      have r01 : Slot w1 (w.heap.size) 1 (.int .i64 0) := slotB hb ⟨by simp [go_sem], by simp [go_sem]⟩
      have zr00 := lt_of_cell r00.1
      have hB : Below w.heap.size w w1 := hX
      clear hb hX
      go_wp2_with fail
      refine (isMap_is g _ false _ (HG.out.keep (nextX hB (by go_grown))) hk HM2.out).mono ?_
      rintro e w2 ⟨rfl, hb⟩
      have hX : Below w1.heap.size w1 w2 := nextX (by go_grown) hb
      replace r00 := slotB hX r00
      replace r01 := slotB hX r01
      have zr00 := Nat.lt_of_lt_of_le zr00 hX.size
      replace hB := nextW hB hX
      clear hb hX
      obtain ⟨q0, k0⟩ := r00
      obtain ⟨q1, k1⟩ := r01
      go_wp2_with fail
      refine bodyPost_ret (v := .tuple #[.agg #[.int .i64 0, .int .i64 0], .bool false]) (by first | (simp [results, Tryz.results25, go_sem, q0, q1]; done) | (simp [results, Tryz.results25, go_sem, q0, q1, zr00]; done)) rfl ⟨rfl, ?_⟩
      go_grown
    · have HMF := Lib.hid hm1
      have HMG := Lib.hid hm2
      have hpos := bothQ_pos (g := g) hm1
      have l1 := okMap_len hm1
      have l2 := okMap_len hm2
      have hbl := bothQ_len f g
      have HUn := Lib.hid (bothQ_unit hm1 hm2)
      have hab : (if (allFine f g && !(greTo f g (bothQ f g).length).2) = true then ((greTo f g (bothQ f g).length).1.1, (greTo f g (bothQ f g).length).1.2, true) else (0, 0, false)) = (a, b, t) := by have := HL.out; unfold greatQ at this; rwa [if_pos (by rw [hm1, hm2]; rfl)] at this
      have HAB := Lib.hid hab
      have HOf := Lib.hid (fun (x : Nat) (hx : w.heap.size ≤ x) => hf.old (okMap_ne hm1) (g := x) hx)
      have HOg := Lib.hid (fun (x : Nat) (hx : w.heap.size ≤ x) => hg.old (okMap_ne hm2) (g := x) hx)
      clear hf hg hl hm1 hm2 hab
      go_enter Tryz.func25, Tryz.ntmps25
      go_wp2_with fail
      refine (isMap_is f _ true _ (HF.out.keep (by go_grown)) hn HMF.out).mono ?_
      rintro e w1 ⟨rfl, hb⟩
      have hX : Below w.heap.size w w1 := nextX (by go_grown) hb
      have r00 : Slot w1 (w.heap.size) 0 (.int .i64 0) := slotB hb ⟨by simp [go_sem], by simp [go_sem]⟩
      have r01 : Slot w1 (w.heap.size) 1 (.int .i64 0) := slotB hb ⟨by simp [go_sem], by simp [go_sem]⟩
      have zr00 := lt_of_cell r00.1
      have hB : Below w.heap.size w w1 := hX
      clear hb hX
      go_wp2_with fail
      refine (isMap_is g _ true _ (HG.out.keep (nextX hB (by go_grown))) hk HMG.out).mono ?_
      rintro e w2 ⟨rfl, hb⟩
      have hX : Below w1.heap.size w1 w2 := nextX (by go_grown) hb
      replace r00 := slotB hX r00
      replace r01 := slotB hX r01
      have zr00 := Nat.lt_of_lt_of_le zr00 hX.size
      replace hB := nextW hB hX
      clear hb hX
      have hz2 := hB.size
      have zz2 := zr00
      go_wp2_with fail
      refine (zero_any _).mono ?_
      rintro e w3 ⟨rfl, hb⟩
      have hX : Below w2.heap.size w2 w3 := nextX (by go_grown) hb
      replace r00 := slotB hX r00
      replace r01 := slotB hX r01
      have sc : Slot w3 (w2.heap.size) 0 (.bool false) := slotB hb ⟨by simp [go_sem], by simp [go_sem]⟩
      have zsc := lt_of_cell sc.1
      have zr00 := Nat.lt_of_lt_of_le zr00 hX.size
      replace hB := nextW hB hX
      clear hb hX
      have zz3 := zsc
      go_wp2_with fail
      refine (bothAt_is f g _ _ _ (HF.out.keep (nextX hB (by go_grown))) (HG.out.keep (nextX hB (by go_grown))) HMF.out HMG.out).mono ?_
      rintro e w4 ⟨r1, rfl, os1, hb⟩
      have hX : Below w3.heap.size w3 w4 := nextX (by go_grown) hb
      replace r00 := slotB hX r00
      replace r01 := slotB hX r01
      replace sc := slotB hX sc
      have sm0 : Slot w4 (w3.heap.size) 0 (.int .i64 0) := slotB hb ⟨by simp [go_sem], by simp [go_sem]⟩
      have sm1 : Slot w4 (w3.heap.size) 1 (.int .i64 1) := slotB hb ⟨by simp [go_sem], by simp [go_sem]⟩
      have zsm0 := lt_of_cell sm0.1
      have zr00 := Nat.lt_of_lt_of_le zr00 hX.size
      have zsc := Nat.lt_of_lt_of_le zsc hX.size
      replace hB := nextW hB hX
      obtain ⟨g1, cap1, rfl, hc1, hc2, hlo, hg1, hcell1⟩ := os1.lit (n := (bothQ f g).length) rfl hpos
      unfold maxLen at hc2
      have hz3 : w2.heap.size < w3.heap.size := zz3
      have hne : w3.heap.size < g1 := by simp at hlo; omega
      have hzr : w.heap.size < w2.heap.size := zz2
      have HC1 := Lib.hid hcell1
      have SC := Lib.hid sc
      have SM := Lib.hid (And.intro sm0 sm1)
      have RR := Lib.hid (And.intro r00 r01)
      clear os1 hb hX hcell1 sc sm0 sm1 hlo r00 r01
      generalize hgc : w2.heap.size = gc at *
      generalize hgm : w3.heap.size = gm at *
      clear hgc hgm
      go_wp2_with fail
      go_name_world W0 hW
      rw [hW] at HC1 hB SC SM RR hg1
      clear hW
      have zA := lt_of_cell SC.out.1
      have zB := lt_of_cell SM.out.1.1
      go_loopw [24] (fun i wr => RelGd f g gc gm W0 i wr) (fun i _ => (bothQ f g).length - (intOf i).toNat)
      case atStart => exact ⟨0, Nat.zero_le _, rfl, SM.out.1, SM.out.2, by unfold fineTo2; exact SC.out, But2.refl _ _ _⟩
      case round =>
        obtain ⟨k, hk2, rfl, sm0, sm1, hsl, hbu⟩ := hrel
        have hzr2 := hbu.size
        have hBr : Below w.heap.size w wr := ⟨hbu.os.trans hB.os, hbu.tape.trans hB.tape, hbu.output.trans hB.output, Nat.le_trans hB.size hbu.size, fun b hb => (hbu.block b (by have := hB.size; omega) (by omega) (by omega)).trans (hB.block b hb)⟩
        by_cases hlt : k < (bothQ f g).length
        · have hx := List.getElem?_eq_getElem hlt
          generalize (bothQ f g)[k] = x at *
          obtain ⟨c0, c1⟩ := HC1.out k _ hx
          have ux := HUn.out _ (List.mem_of_getElem? hx)
          have uf := valQ_unit (x := x) HMF.out ux
          have ug := valQ_unit (x := x) HMG.out ux
          have hff : fineV f g x = ((valQ f x).2 && (valQ g x).2) := rfl
          have hnx := greTo_next hx
          have hnf := fineTo2_next hx
          have hmo := farN_ok (valA f g) (valB f g) k
          rw [show farN (valA f g) (valB f g) k = greTo f g k from rfl] at hmo
          obtain ⟨x1, x2⟩ := x
          rcases hy : valQ f (x1, x2) with ⟨⟨y1, y2⟩, ty⟩
          rcases hz : valQ g (x1, x2) with ⟨⟨z1, z2⟩, tz⟩
          rcases hm : greTo f g k with ⟨⟨m1, m2⟩, mb⟩
          simp only [hy, hz, hm] at hff uf ug hnx hmo sm0 sm1 hsl
          rw [hff] at hnf
          have hks := keepAbs_ok (y1, y2) (z1, z2)
          rcases hkq : keepQ (absQ (y1, y2) (z1, z2)) with ⟨s1, s2⟩
          rw [hkq] at hks hnx
          rcases hr : bigQ (m1, m2) (s1, s2) with ⟨r1, r2⟩
          rw [hr] at hnx
          have HNx := Lib.hid hnx
          have HNf := Lib.hid hnf
          replace c0 := cell2 hbu (by omega) (by omega) c0
          replace c1 := cell2 hbu (by omega) (by omega) c1
          have SY := Lib.hid (Sm.of_ok (unitQ_ok uf))
          have SZ := Lib.hid (Sm.of_ok (unitQ_ok ug))
          have SMm := Lib.hid (Sm.of_ok hmo)
          have SSs := Lib.hid (Sm.of_ok hks)
          have HKq := Lib.hid hkq
          have HRr := Lib.hid hr
          have HVf := Lib.hid (fun W bd (h1 : Slot W gc 0 (.bool bd)) (h2 : RdP W vf f) => value_is f vf x1 x2 y1 y2 ty bd _ gc W h1 h2 (HOf.out gc (by omega)) HMF.out ux hy rfl)
          have HVg := Lib.hid (fun W bd (h1 : Slot W gc 0 (.bool bd)) (h2 : RdP W vg g) => value_is g vg x1 x2 z1 z2 tz bd _ gc W h1 h2 (HOg.out gc (by omega)) HMG.out ux hz rfl)
          have HDs := Lib.hid (fun W bd (h1 : Slot W gc 0 (.bool bd)) => cDist_any y1 y2 z1 z2 s1 s2 bd _ gc W h1 SY.out SZ.out HKq.out rfl)
          have HGr := Lib.hid (fun W => greater_any m1 m2 s1 s2 r1 r2 SMm.out SSs.out HRr.out W)
          have b0 : (0 : Int) ≤ (k : Int) := by omega
          have b1 : (k : Int) < ((bothQ f g).length : Int) := by omega
          have v2 : IntKind.i64.wrap ((k : Int) + 1) = (k : Int) + 1 := IntWalk.i64_in _ (by omega)
          have v3 : IntKind.i64.wrap (k : Int) = (k : Int) := IntWalk.i64_in _ (by omega)
          have HS0 := Lib.hid sm0
          have HS1 := Lib.hid sm1
          have HSl := Lib.hid hsl
          have zgm := lt_of_cell sm0.1
          have zgc := lt_of_cell hsl.1
          clear hx ux uf ug hff hnx hnf hmo hy hz hm hks hkq hr sm0 sm1 hsl
          go_wp2_with fail
          go_name_world W4 hW4
          have hX4 : Below wr.heap.size wr W4 := by rw [← hW4]; go_grown
          have x0 : W4.cell? ⟨wr.heap.size, 0, none⟩ = some (.int .i64 x1) := by rw [← hW4]; simp [go_sem]
          have x1' : W4.cell? ⟨wr.heap.size, 1, none⟩ = some (.int .i64 x2) := by rw [← hW4]; simp [go_sem]
          have m0 := slotB hX4 HS0.out
          have m1' := slotB hX4 HS1.out
          have G4 := Lib.hid (slotB hX4 HSl.out)
          have hB4 : Below w.heap.size w W4 := nextW hBr hX4
          have hz5 : wr.heap.size < W4.heap.size := lt_of_cell x0
          have hbu4 := hbu.next hX4
          have M0 := Lib.hid m0
          have M1 := Lib.hid m1'
          obtain ⟨m0, mf0⟩ := m0
          obtain ⟨m1', mf1⟩ := m1'
          clear hW4 hX4 c0 c1 mf0 mf1
          refine wp_region_HT (S := fun w' => w'.cell? ⟨gm, 0, none⟩ = some (.int .i64 m1) ∧ w'.cell? ⟨gm, 1, none⟩ = some (.int .i64 m2) ∧ w'.cell? ⟨wr.heap.size, 0, none⟩ = some (.int .i64 x1) ∧ w'.cell? ⟨wr.heap.size, 1, none⟩ = some (.int .i64 x2)) 8 (by kernel_rfl) (by kernel_rfl) ?_
          have hS0 : (fun w' : World => w'.cell? ⟨gm, 0, none⟩ = some (.int .i64 m1) ∧ w'.cell? ⟨gm, 1, none⟩ = some (.int .i64 m2) ∧ w'.cell? ⟨wr.heap.size, 0, none⟩ = some (.int .i64 x1) ∧ w'.cell? ⟨wr.heap.size, 1, none⟩ = some (.int .i64 x2)) _ := ⟨m0, m1', x0, x1'⟩
          refine HT.take' (i := 0) (v := ?_) rfl (by kernel_rfl) (by decide) (by kernel_rfl) (by kernel_rfl) (fun _ _ _ h => h) (by rfl) (fun w' hS => ?_) hS0 ?_
          rotate_left
          focus
            obtain ⟨k0, k1, k2, k3⟩ := hS
            go_simp
            try with_reducible rfl
            done
          simp only [Act.put, List.setIfInBounds_toArray, List.set_cons_zero, List.set_cons_succ]
          refine HT.take' (i := 1) (v := ?_) rfl (by kernel_rfl) (by decide) (by kernel_rfl) (by kernel_rfl) (fun _ _ _ h => h) (by rfl) (fun w' hS => ?_) hS0 ?_
          rotate_left
          focus
            obtain ⟨k0, k1, k2, k3⟩ := hS
            go_simp
            try with_reducible rfl
            done
          simp only [Act.put, List.setIfInBounds_toArray, List.set_cons_zero, List.set_cons_succ]
          refine HT.take' (i := 2) (v := ?_) rfl (by kernel_rfl) (by decide) (by kernel_rfl) (by kernel_rfl) (fun _ _ _ h => h) (by rfl) (fun w' hS => ?_) hS0 ?_
          rotate_left
          focus
            obtain ⟨k0, k1, k2, k3⟩ := hS
            go_simp
            try with_reducible rfl
            done
          simp only [Act.put, List.setIfInBounds_toArray, List.set_cons_zero, List.set_cons_succ]
          refine HT.take' (i := 4) (v := ?_) rfl (by kernel_rfl) (by decide) (by kernel_rfl) (by kernel_rfl) (fun _ _ _ h => h) (by rfl) (fun w' hS => ?_) hS0 ?_
          rotate_left
          focus
            obtain ⟨k0, k1, k2, k3⟩ := hS
            go_simp
            try with_reducible rfl
            done
          simp only [Act.put, List.setIfInBounds_toArray, List.set_cons_zero, List.set_cons_succ]
          refine HT.take' (i := 5) (v := ?_) rfl (by kernel_rfl) (by decide) (by kernel_rfl) (by kernel_rfl) (fun _ _ _ h => h) (by rfl) (fun w' hS => ?_) hS0 ?_
          rotate_left
          focus
            obtain ⟨k0, k1, k2, k3⟩ := hS
            go_simp
            try with_reducible rfl
            done
          simp only [Act.put, List.setIfInBounds_toArray, List.set_cons_zero, List.set_cons_succ]
          refine HT.one' (i := 3) rfl (by decide) (by kernel_rfl) (fun K hK => ?_)
          go_simp
          refine (HVf.out _ _ (slotB (by go_grown) G4.out) (HF.out.keep (nextX hB4 (by go_grown)))).mono ?_
          rintro e w5 ⟨rfl, g5, k5'⟩
          have hk5 : But gc W4 w5 := (But.of_below (by go_grown : Below W4.heap.size W4 _) (Nat.le_refl _)).trans k5'
          have hB5 : Below w.heap.size w w5 := But.below hB4 hk5 (by omega) hB4.size
          go_wp2_with fail
          have hS1 : (fun w' : World => w'.cell? ⟨gm, 0, none⟩ = some (.int .i64 m1) ∧ w'.cell? ⟨gm, 1, none⟩ = some (.int .i64 m2) ∧ w'.cell? ⟨wr.heap.size, 0, none⟩ = some (.int .i64 x1) ∧ w'.cell? ⟨wr.heap.size, 1, none⟩ = some (.int .i64 x2)) _ := ⟨cellU hk5 (by omega) m0, cellU hk5 (by omega) m1', cellU hk5 (by omega) x0, cellU hk5 (by omega) x1'⟩
          refine hK _ _ hS1 ?_
          clear hK
          try simp only [Act.put, List.setIfInBounds_toArray, List.set_cons_zero, List.set_cons_succ]
          refine HT.one' (i := 6) rfl (by decide) (by kernel_rfl) (fun K hK => ?_)
          go_simp
          refine (HVg.out _ _ g5 (HG.out.keep hB5)).mono ?_
          rintro e w6 ⟨rfl, g6, k6'⟩
          have hk6 : But gc W4 w6 := hk5.trans k6'
          go_wp2_with fail
          have hS2 : (fun w' : World => w'.cell? ⟨gm, 0, none⟩ = some (.int .i64 m1) ∧ w'.cell? ⟨gm, 1, none⟩ = some (.int .i64 m2) ∧ w'.cell? ⟨wr.heap.size, 0, none⟩ = some (.int .i64 x1) ∧ w'.cell? ⟨wr.heap.size, 1, none⟩ = some (.int .i64 x2)) _ := ⟨cellU hk6 (by omega) m0, cellU hk6 (by omega) m1', cellU hk6 (by omega) x0, cellU hk6 (by omega) x1'⟩
          refine hK _ _ hS2 ?_
          clear hK
          try simp only [Act.put, List.setIfInBounds_toArray, List.set_cons_zero, List.set_cons_succ]
          refine HT.one' (i := 7) rfl (by decide) (by kernel_rfl) (fun K hK => ?_)
          go_simp
          refine (HDs.out _ _ g6).mono ?_
          rintro e w7 ⟨rfl, g7, k7'⟩
          have hk7 : But gc W4 w7 := hk6.trans k7'
          go_wp2_with fail
          have hS3 : (fun w' : World => w'.cell? ⟨gm, 0, none⟩ = some (.int .i64 m1) ∧ w'.cell? ⟨gm, 1, none⟩ = some (.int .i64 m2) ∧ w'.cell? ⟨wr.heap.size, 0, none⟩ = some (.int .i64 x1) ∧ w'.cell? ⟨wr.heap.size, 1, none⟩ = some (.int .i64 x2)) _ := ⟨cellU hk7 (by omega) m0, cellU hk7 (by omega) m1', cellU hk7 (by omega) x0, cellU hk7 (by omega) x1'⟩
          refine hK _ _ hS3 ?_
          clear hK
          try simp only [Act.put, List.setIfInBounds_toArray, List.set_cons_zero, List.set_cons_succ]
          refine HT.done (by kernel_rfl) ?_
          simp only [List.drop_succ_cons, List.drop_zero]
          clear hS0 hS1 hS2 hS3 k5' k6' k7' hk5 hk6 hB5 g5 g6 x0 x1' m0 m1'
          go_wp2_with fail
          refine (HGr.out _).mono ?_
          rintro e w8 ⟨rfl, hb8⟩
          have hX8 : Below w7.heap.size w7 w8 := nextX (by go_grown) hb8
          clear hb8
          have hS5 := slotB hX8 (slotU hk7 (by omega) M0.out)
          have hS6 := slotB hX8 (slotU hk7 (by omega) M1.out)
          have HG8 := Lib.hid (slotB hX8 g7)
          have hbu8 := (hbu4.trans (But2.one (h := gm) hk7)).next hX8
          have HBu8 := Lib.hid hbu8
          have hs := stored2 hS5 hS6 (.int .i64 r1) (.int .i64 r2)
          have HSt := Lib.hid hs
          obtain ⟨e0, f0⟩ := hS5
          obtain ⟨e1, f1⟩ := hS6
          clear hbu8 hs hX8 hk7 g7 hbu4
          go_wp2_with fail
          go_roundw
          case rel =>
            refine ⟨k + 1, by omega, by go_num, ?_, ?_, ?_, (HBu8.out.trans (But2.two (((But.refl gm _).setCell _).setCell _)))⟩
            · rw [HNx.out]; exact HSt.out.1
            · rw [HNx.out]; exact HSt.out.2
            · rw [HNx.out, HNf.out]
              have h8 := HG8.out
              have h9 := slotS (u := .int .i64 r2) (slotS (u := .int .i64 r1) h8 (show (gm, 0) ≠ (gc, 0) by simp; omega)) (show (gm, 1) ≠ (gc, 0) by simp)
              cases h1 : fineTo2 f g k <;> cases ty <;> cases tz <;> cases mb <;> cases h2 : (absQ (y1, y2) (z1, z2)).2.2 <;> simpa [h1, h2] using h9
          case measure => simp [intOf]; omega
        · obtain rfl : k = (bothQ f g).length := by omega
          rcases hm : greTo f g (bothQ f g).length with ⟨⟨m1, m2⟩, mb⟩
          rw [hm] at sm0 sm1 hsl HAB
          rw [fineTo2_all] at hsl
          obtain ⟨z0, kz0⟩ := slot2 hbu (by omega) (by omega) RR.out.1
          obtain ⟨z1, kz1⟩ := slot2 hbu (by omega) (by omega) RR.out.2
      
          have h0 := sm0.1
          have h1 := sm1.1
          have hcc := hsl.1
          simp only at h0 h1
          have HABo := HAB.out
          simp only at HABo
          clear sm0 sm1 hsl
          rcases hq : (allFine f g && !mb) with _ | _
          · obtain ⟨rfl, rfl, rfl⟩ : 0 = a ∧ 0 = b ∧ false = t := by rw [if_neg (by rw [hq]; simp)] at HABo; simpa using HABo
            rw [show (!allFine f g || mb) = true from by cases h3 : allFine f g <;> cases mb <;> simp [h3] at hq ⊢] at hcc
            go_wp2_with fail
            refine bodyPost_ret (v := .tuple #[.agg #[.int .i64 0, .int .i64 0], .bool false]) (by simp [results, Tryz.results25, go_sem, z0, z1]) rfl ⟨rfl, ?_⟩
            go_grown
          · obtain ⟨rfl, rfl, rfl⟩ : m1 = a ∧ m2 = b ∧ true = t := by rw [if_pos hq] at HABo; simpa using HABo
            rw [show (!allFine f g || mb) = false from by cases h3 : allFine f g <;> cases mb <;> simp [h3] at hq ⊢] at hcc
            go_wp2_with fail
            refine bodyPost_ret (v := .tuple #[.agg #[.int .i64 m1, .int .i64 m2], .bool true]) (by simp [results, Tryz.results25, go_sem, z0, z1]) rfl ⟨rfl, ?_⟩
            go_grown

end Go.Proofs.YtkeajfgcjmhmiaaGreat
