/- The program's IsBelow. -/
import Derived.Test.YtkeajfgcjmhmiaaGreatJ20
import Derived.Test.YtkeajfgcjmhmiaaGreatJ29
import Derived.Test.YtkeajfgcjmhmiaaGreatJ6
namespace Go.Proofs.YtkeajfgcjmhmiaaGreat
open Go.RowKit

def RelIb (f g : List Pt) (gc : Nat) (W0 : World) (s i : Value) (wr : World) : Prop :=
  ∃ k : Nat, k ≤ (bothQ f g).length ∧ i = .int .i64 k ∧ s = .bool (belTo f g k) ∧ Slot wr gc 0 (.bool (!fineTo2 f g k)) ∧ But gc W0 wr

set_option maxRecDepth 100000 in
set_option maxHeartbeats 3200000 in
theorem iIsBelow_is (f g : List Pt) (vf vg : Value) (a b : Bool) (hl : belowQ f g = (a, b)) (w : World) (hf : RdP w vf f) (hg : RdP w vg g) (hn : f.length ≤ 1048576) (hk : g.length ≤ 1048576) :
    Calls Tryz.prog 38 #[vf, vg] w (fun e w' => e = .returned (.tuple #[.bool a, .bool b]) ∧ Below w.heap.size w w') := by
  have HF := Lib.hid hf
  have HG := Lib.hid hg
  have HL := Lib.hid hl
  rcases hm1 : okMap f with _ | _
  · obtain ⟨rfl, rfl⟩ : false = a ∧ false = b := by have := HL.out; unfold belowQ at this; rw [if_neg (by rw [hm1]; simp)] at this; exact Prod.mk.inj this
    have HM := Lib.hid hm1
    clear hf hg hl hm1
    go_enter Tryz.func38, Tryz.ntmps38
    go_wp2_with fail
    refine (isMap_is f _ false _ (HF.out.keep (by go_grown)) hn HM.out).mono ?_
    rintro e w1 ⟨rfl, hb⟩
    go_wp2_with fail
    go_ret2
    exact ⟨rfl, hb⟩
  · rcases hm2 : okMap g with _ | _
    · obtain ⟨rfl, rfl⟩ : false = a ∧ false = b := by have := HL.out; unfold belowQ at this; rw [if_neg (by rw [hm2]; simp)] at this; exact Prod.mk.inj this
      have HM := Lib.hid hm1
      have HM2 := Lib.hid hm2
      clear hf hg hl hm1 hm2
      go_enter Tryz.func38, Tryz.ntmps38
      go_wp2_with fail
      refine (isMap_is f _ true _ (HF.out.keep (by go_grown)) hn HM.out).mono ?_
      rintro e w1 ⟨rfl, hb⟩
      have hB : Below w.heap.size w w1 := hb
      clear hb
      go_wp2_with fail
      refine (isMap_is g _ false _ (HG.out.keep hB) hk HM2.out).mono ?_
      rintro e w2 ⟨rfl, hb⟩
      go_wp2_with fail
      go_ret2
      exact ⟨rfl, nextW hB hb⟩
    · have HMF := Lib.hid hm1
      have HMG := Lib.hid hm2
      have hpos := bothQ_pos (g := g) hm1
      have l1 := okMap_len hm1
      have l2 := okMap_len hm2
      have hbl := bothQ_len f g
      have HUn := Lib.hid (bothQ_unit hm1 hm2)
      have hab : (if allFine f g = true then ((bothQ f g).all (belB f g), true) else (false, false)) = (a, b) := by have := HL.out; unfold belowQ at this; rwa [if_pos (by rw [hm1, hm2]; rfl)] at this
      have HAB := Lib.hid hab
      have HOf := Lib.hid (fun (x : Nat) (hx : w.heap.size ≤ x) => hf.old (okMap_ne hm1) (g := x) hx)
      have HOg := Lib.hid (fun (x : Nat) (hx : w.heap.size ≤ x) => hg.old (okMap_ne hm2) (g := x) hx)
      clear hf hg hl hm1 hm2 hab
      go_enter Tryz.func38, Tryz.ntmps38
      go_wp2_with fail
      refine (isMap_is f _ true _ (HF.out.keep (by go_grown)) hn HMF.out).mono ?_
      rintro e w1 ⟨rfl, hb⟩
      have hB : Below w.heap.size w w1 := hb
      clear hb
      go_wp2_with fail
      refine (isMap_is g _ true _ (HG.out.keep hB) hk HMG.out).mono ?_
      rintro e w2 ⟨rfl, hb⟩
      replace hB := nextW hB hb
      have hz2 := hB.size
      clear hb
      go_wp2_with fail
      refine (bothAt_is f g _ _ _ (HF.out.keep (nextX hB (by go_grown))) (HG.out.keep (nextX hB (by go_grown))) HMF.out HMG.out).mono ?_
      rintro e w3 ⟨r1, rfl, os1, hb⟩
      have hX : Below w2.heap.size w2 w3 := nextX (by go_grown) hb
      have sc : Slot w3 w2.heap.size 0 (.bool false) := slotB hb ⟨by simp [go_sem], by simp [go_sem]⟩
      have zc := lt_of_cell sc.1
      obtain ⟨g1, cap1, rfl, hc1, hc2, hlo, hg1, hcell1⟩ := os1.lit (n := (bothQ f g).length) rfl hpos
      unfold maxLen at hc2
      have hne : w2.heap.size < g1 := by simp at hlo; omega
      have HC1 := Lib.hid hcell1
      have SC := Lib.hid sc
      replace hB := nextW hB hX
      clear os1 hb hX hcell1 sc hlo
      generalize hgc : w2.heap.size = gc at *
      clear hgc
      go_wp2_with fail
      go_name_world W0 hW
      rw [hW] at HC1 hB SC zc hg1
      clear hW
      go_loopw [7, 23] (fun s i wr => RelIb f g gc W0 s i wr) (fun _ i _ => (bothQ f g).length - (intOf i).toNat)
      case atStart => exact ⟨0, Nat.zero_le _, rfl, by unfold belTo; simp, by unfold fineTo2; simpa using SC.out, But.refl _ _⟩
      case round =>
        obtain ⟨k, hk2, rfl, rfl, hsl, hbu⟩ := hrel
        have HSl := Lib.hid hsl
        have hzr := hbu.size
        have hBr : Below w.heap.size w wr := But.below hB hbu (by omega) hB.size
        clear hsl
        by_cases hlt : k < (bothQ f g).length
        · have hx := List.getElem?_eq_getElem hlt
          generalize (bothQ f g)[k] = x at *
          obtain ⟨c0, c1⟩ := HC1.out k _ hx
          have ux := HUn.out _ (List.mem_of_getElem? hx)
          have uf := valQ_unit (x := x) HMF.out ux
          have ug := valQ_unit (x := x) HMG.out ux
          have hbb : belB f g x = !lessQ (valQ g x).1.1 (valQ g x).1.2 (valQ f x).1.1 (valQ f x).1.2 := rfl
          have hff : fineV f g x = ((valQ f x).2 && (valQ g x).2) := rfl
          have hnx := belTo_next hx
          have hnf := fineTo2_next hx
          obtain ⟨x1, x2⟩ := x
          rcases hy : valQ f (x1, x2) with ⟨⟨y1, y2⟩, ty⟩
          rcases hz : valQ g (x1, x2) with ⟨⟨z1, z2⟩, tz⟩
          simp only [hy, hz] at hbb hff uf ug
          rw [hbb] at hnx
          rw [hff] at hnf
          have HNx := Lib.hid hnx
          have HNf := Lib.hid hnf
          replace c0 := cellU hbu (by omega) c0
          replace c1 := cellU hbu (by omega) c1
          have SY := Lib.hid (Sm.of_ok (unitQ_ok uf))
          have SZ := Lib.hid (Sm.of_ok (unitQ_ok ug))
          have HVf := Lib.hid (fun W bd (h1 : Slot W gc 0 (.bool bd)) (h2 : RdP W vf f) => value_is f vf x1 x2 y1 y2 ty bd _ gc W h1 h2 (HOf.out gc (by omega)) HMF.out ux hy rfl)
          have HVg := Lib.hid (fun W bd (h1 : Slot W gc 0 (.bool bd)) (h2 : RdP W vg g) => value_is g vg x1 x2 z1 z2 tz bd _ gc W h1 h2 (HOg.out gc (by omega)) HMG.out ux hz rfl)
          obtain ⟨lv, hlv⟩ : ∃ lv, lessQ z1 z2 y1 y2 = lv := ⟨_, rfl⟩
          have HLs := Lib.hid (fun W => less_any z1 z2 y1 y2 SZ.out.1 SZ.out.2 SY.out.1 SY.out.2 W)
          rw [hlv] at HLs HNx
          have b0 : (0 : Int) ≤ (k : Int) := by omega
          have b1 : (k : Int) < ((bothQ f g).length : Int) := by omega
          have v2 : IntKind.i64.wrap ((k : Int) + 1) = (k : Int) + 1 := IntWalk.i64_in _ (by omega)
          have v3 : IntKind.i64.wrap (k : Int) = (k : Int) := IntWalk.i64_in _ (by omega)
          clear hx ux uf ug hbb hff hnx hnf hy hz hlv
          go_wp2_with fail
          refine (HVf.out _ _ (slotB (by go_grown) HSl.out) (HF.out.keep (nextX hBr (by go_grown)))).mono ?_
          rintro e w4 ⟨rfl, g4, k4⟩
          have x0 : w4.cell? ⟨wr.heap.size, 0, none⟩ = some (.int .i64 x1) := cellU k4 (by omega) (by simp [go_sem])
          have x1' : w4.cell? ⟨wr.heap.size, 1, none⟩ = some (.int .i64 x2) := cellU k4 (by omega) (by simp [go_sem])
          have hz4 : wr.heap.size < w4.heap.size := lt_of_cell x0
          have hbu4 : But gc W0 w4 := (hbu.trans (But.of_below (by go_grown : Below wr.heap.size wr _) (Nat.le_refl _))).trans k4
          have G4 := Lib.hid g4
          clear k4 g4 c0 c1
          go_wp2_with fail
          go_name_world W4 hW4
          have hX4 : Below w4.heap.size w4 W4 := by rw [← hW4]; go_grown
          replace x0 := cellB hX4 x0
          replace x1' := cellB hX4 x1'
          have yb0 : W4.cell? ⟨w4.heap.size, 0, none⟩ = some (.int .i64 y1) := by rw [← hW4]; simp [go_sem]
          have yb1 : W4.cell? ⟨w4.heap.size, 1, none⟩ = some (.int .i64 y2) := by rw [← hW4]; simp [go_sem]
          replace G4 := Lib.hid (slotB hX4 G4.out)
          replace hbu4 := hbu4.trans (But.of_below hX4 (Nat.le_refl _))
          have hz5 : w4.heap.size < W4.heap.size := lt_of_cell yb0
          have hB4 : Below w.heap.size w W4 := But.below hB hbu4 (by omega) hB.size
          clear hW4 hX4
          rcases lv with _ | _
          all_goals
            refine wp_region_HT (S := fun w' => w'.cell? ⟨wr.heap.size, 0, none⟩ = some (.int .i64 x1) ∧ w'.cell? ⟨wr.heap.size, 1, none⟩ = some (.int .i64 x2) ∧ w'.cell? ⟨w4.heap.size, 0, none⟩ = some (.int .i64 y1) ∧ w'.cell? ⟨w4.heap.size, 1, none⟩ = some (.int .i64 y2)) 4 (by kernel_rfl) (by kernel_rfl) ?_
            have hS0 : (fun w' : World => w'.cell? ⟨wr.heap.size, 0, none⟩ = some (.int .i64 x1) ∧ w'.cell? ⟨wr.heap.size, 1, none⟩ = some (.int .i64 x2) ∧ w'.cell? ⟨w4.heap.size, 0, none⟩ = some (.int .i64 y1) ∧ w'.cell? ⟨w4.heap.size, 1, none⟩ = some (.int .i64 y2)) _ := ⟨x0, x1', yb0, yb1⟩
            refine HT.take' (i := 0) (v := ?_) rfl (by kernel_rfl) (by decide) (by kernel_rfl) (by kernel_rfl) (fun _ _ _ h => h) (by rfl) (fun w' hS => ?_) hS0 ?_
            rotate_left
            focus
              obtain ⟨k0, k1, k2, k3⟩ := hS
              go_simp
              try with_reducible rfl
              done
            simp only [Act.put, List.setIfInBounds_toArray, List.set_cons_zero, List.set_cons_succ]
            refine HT.take' (i := 1) (v := ?_) rfl (by kernel_rfl) (by decide) (by kernel_rfl) (by kernel_rfl) (fun _ _ _ h => h) (by rfl) (fun w' hS => ?_) hS0 ?_
            rotate_left
            focus
              obtain ⟨k0, k1, k2, k3⟩ := hS
              go_simp
              try with_reducible rfl
              done
            simp only [Act.put, List.setIfInBounds_toArray, List.set_cons_zero, List.set_cons_succ]
            refine HT.take' (i := 3) (v := ?_) rfl (by kernel_rfl) (by decide) (by kernel_rfl) (by kernel_rfl) (fun _ _ _ h => h) (by rfl) (fun w' hS => ?_) hS0 ?_
            rotate_left
            focus
              obtain ⟨k0, k1, k2, k3⟩ := hS
              go_simp
              try with_reducible rfl
              done
            simp only [Act.put, List.setIfInBounds_toArray, List.set_cons_zero, List.set_cons_succ]
            refine HT.one' (i := 2) rfl (by decide) (by kernel_rfl) (fun K hK => ?_)
            go_simp
            refine (HVg.out _ _ (slotB (by go_grown) G4.out) (HG.out.keep (nextX hB4 (by go_grown)))).mono ?_
            rintro e w5 ⟨rfl, g5, k5'⟩
            have k5 : But gc W4 w5 := (But.of_below (by go_grown : Below W4.heap.size W4 _) (Nat.le_refl _)).trans k5'
            have hz6 := k5.size
            go_wp2_with fail
            have hS1 : (fun w' : World => w'.cell? ⟨wr.heap.size, 0, none⟩ = some (.int .i64 x1) ∧ w'.cell? ⟨wr.heap.size, 1, none⟩ = some (.int .i64 x2) ∧ w'.cell? ⟨w4.heap.size, 0, none⟩ = some (.int .i64 y1) ∧ w'.cell? ⟨w4.heap.size, 1, none⟩ = some (.int .i64 y2)) _ := ⟨cellU k5 (by omega) x0, cellU k5 (by omega) x1', cellU k5 (by omega) yb0, cellU k5 (by omega) yb1⟩
            refine hK _ _ hS1 ?_
            clear hK
            try simp only [Act.put, List.setIfInBounds_toArray, List.set_cons_zero, List.set_cons_succ]
            refine HT.done (by kernel_rfl) ?_
            simp only [List.drop_succ_cons, List.drop_zero]
            have HBu5 := Lib.hid (hbu4.trans k5)
            have HG5 := Lib.hid g5
            clear hS0 hS1 k5 k5' x0 x1' yb0 yb1 hbu4 G4 hB4
            go_wp2_with fail
            refine (HLs.out _).mono ?_
            rintro e w6 ⟨rfl, hb6⟩
            have hX6 : Below w5.heap.size w5 w6 := nextX (by go_grown) hb6
            have HBu6 := Lib.hid (HBu5.out.trans (But.of_below hX6 (Nat.le_refl _)))
            have HG6 := Lib.hid (slotB hX6 HG5.out)
            clear hb6 hX6
            go_wp2_with fail
            go_roundw
            case rel => exact ⟨k + 1, by omega, by go_num, by rw [HNx.out]; first | rfl | (simp; done) | (cases belTo f g k <;> rfl), by rw [HNf.out]; have := HG6.out; cases h1 : fineTo2 f g k <;> cases ty <;> cases tz <;> simpa [h1] using this, HBu6.out⟩
            case measure => simp [intOf]; omega
        · obtain rfl : k = (bothQ f g).length := by omega
          have hcell := HSl.out.1
          rw [fineTo2_all] at hcell
          have hbe : belTo f g (bothQ f g).length = (bothQ f g).all (belB f g) := by unfold belTo; rw [List.take_length]
          rw [hbe]
          rcases hfa : allFine f g with _ | _
          · obtain ⟨rfl, rfl⟩ : false = a ∧ false = b := by have := HAB.out; rw [if_neg (by rw [hfa]; simp)] at this; exact Prod.mk.inj this
            rw [hfa] at hcell
            simp only [Bool.not_false] at hcell
            go_wp2_with fail
            go_ret2
            exact ⟨rfl, hBr⟩
          · obtain ⟨rfl, rfl⟩ : (bothQ f g).all (belB f g) = a ∧ true = b := by have := HAB.out; rw [if_pos hfa] at this; exact Prod.mk.inj this
            rw [hfa] at hcell
            simp only [Bool.not_true] at hcell
            go_wp2_with fail
            go_ret2
            exact ⟨rfl, hBr⟩

end Go.Proofs.YtkeajfgcjmhmiaaGreat
