/- pointsAt of the program with the closure of RefineMap. -/
import Derived.Test.YtkeajfgcjmhmiaaGreatJ29
import Derived.Test.YtkeajfgcjmhmiaaGreatJ32
import Derived.Test.YtkeajfgcjmhmiaaGreatJ34
namespace Go.Proofs.YtkeajfgcjmhmiaaGreat
open Go.RowKit

theorem RdP.keepB {B : Nat} {w w' : World} {v : Value} {ps : List Pt} (h : RdP w v ps) (hb : Below B w w') (ho : Old B v) : RdP w' v ps := by
  obtain ⟨A, c, rfl, h1, h2, h3⟩ := h
  refine ⟨A, c, rfl, h1, h2, fun hn => ?_⟩
  obtain ⟨g, o, rfl, hg, hc⟩ := h3 hn
  have hgB : g < B := ho _ _ _ rfl
  refine ⟨g, o, rfl, Nat.lt_of_lt_of_le hg hb.size, fun i p hp => ?_⟩
  obtain ⟨a, b, c', d⟩ := hc i p hp
  exact ⟨(hb.cell (p := ⟨g, _, none⟩) hgB).trans a, (hb.cell (p := ⟨g, _, none⟩) hgB).trans b, (hb.cell (p := ⟨g, _, none⟩) hgB).trans c', (hb.cell (p := ⟨g, _, none⟩) hgB).trans d⟩
theorem OwP.ne_lowP {base g : Nat} {e : TypeId} {w : World} {v : Value} {qs : List Pt} (h : OwP base e w v qs) (hg : g < base) : v.ownBlock ≠ some g := by
  intro hb
  have := (World.ownsRow.lt h g hb).1
  omega
def refPt (f : List Pt) (x : Q) : Pt := (x, (valQ f x).1)
def allV (f : List Pt) (qs : List Q) : Bool := qs.all (fun x => (valQ f x).2)

set_option maxHeartbeats 1600000 in
theorem refF_is (f : List Pt) (vf : Value) (x1 x2 y1 y2 : Int) (t bad bad' : Bool) (gc gf : Nat) (w : World) (hs : Slot w gc 0 (.bool bad)) (hg : w.cell? ⟨gf, 0, none⟩ = some vf) (hv : RdP w vf f) (ho : Old gc vf) (hm : okMap f = true) (hx : unitQ x1 x2 = true) (hy : valQ f (x1, x2) = ((y1, y2), t)) (hb : (bad || !t) = bad') :
    Calls Tryz.prog 102 #[.agg #[.int .i64 x1, .int .i64 x2], .pointer (some ⟨gc, 0, none⟩), .pointer (some ⟨gf, 0, none⟩)] w (KeepEnd gc y1 y2 bad' w) := by
  have HV := Lib.hid hv
  have HS := Lib.hid hs
  have HM := Lib.hid hm
  have HX := Lib.hid hx
  have HY := Lib.hid hy
  have HB := Lib.hid hb
  have HO := Lib.hid ho
  have hgc := lt_of_cell hs.1
  have hgf := lt_of_cell hg
  clear hv hs hm hx hy hb ho
  obtain ⟨A, n, c, rfl⟩ : ∃ A n c, vf = .slice A n c := by
    obtain ⟨A, c, rfl, -⟩ := HV.out
    exact ⟨_, _, _, rfl⟩
  go_enter Tryz.func102, Tryz.ntmps102
  go_wp2_with fail
  refine (value_is f _ x1 x2 y1 y2 t bad bad' gc _ (slotB (by go_grown) HS.out) (HV.out.keep (by go_grown)) HO.out HM.out HX.out HY.out HB.out).mono ?_
  rintro e w1 ⟨rfl, g1, k1⟩
  obtain ⟨r0, r0'⟩ : Slot w1 (w.heap.size + 1) 0 (.int .i64 0) := slotU k1 (by omega) ⟨by simp [go_sem], by simp [go_sem]⟩
  obtain ⟨r1, r1'⟩ : Slot w1 (w.heap.size + 1) 1 (.int .i64 0) := slotU k1 (by omega) ⟨by simp [go_sem], by simp [go_sem]⟩
  have hbu : But gc w w1 := (But.of_below (by go_grown : Below w.heap.size w _) (Nat.le_refl _)).trans k1
  have G1 := Lib.hid g1
  have zr := lt_of_cell r0
  clear k1 g1
  go_wp2_with fail
  refine bodyPost_ret (v := .agg #[.int .i64 y1, .int .i64 y2]) (by simp [results, Tryz.results102, go_sem, r0, r1]) rfl ⟨rfl, ?_, ?_⟩
  · refine slotS (slotS G1.out ?_) ?_ <;> simp <;> omega
  · refine But.setNew (But.setNew hbu ?_ _) ?_ _ <;> omega

def RelPt (f : List Pt) (qs : List Q) (bad : Bool) (gc : Nat) (W0 : World) (out i : Value) (wr : World) : Prop :=
  ∃ k : Nat, k ≤ qs.length ∧ i = .int .i64 k ∧ OwP W0.heap.size 51 wr out ((qs.map (refPt f)).take k) ∧ Slot wr gc 0 (.bool (bad || !allV f (qs.take k))) ∧ But gc W0 wr

set_option maxRecDepth 100000 in
set_option maxHeartbeats 6400000 in
theorem ptsRef_is (f : List Pt) (qs : List Q) (v vf : Value) (bad : Bool) (gc gf : Nat) (w : World) (h : OwQ (gc + 1) 31 w v qs) (ho : OkL qs) (hu : ∀ x ∈ qs, unitQ x.1 x.2 = true) (hn : 1 ≤ qs.length ∧ qs.length ≤ 60) (hs : Slot w gc 0 (.bool bad)) (hg : w.cell? ⟨gf, 0, none⟩ = some vf) (hlt : gf < gc) (hv : RdP w vf f) (hold : Old gc vf) (hm : okMap f = true) :
    Calls Tryz.prog 100 #[v, .func (.func 102) #[] #[.pointer (some ⟨gc, 0, none⟩), .pointer (some ⟨gf, 0, none⟩)]] w (fun e w' => ∃ r, e = .returned r ∧ OwP (gc + 1) 51 w' r ((setQ qs).map (refPt f)) ∧ Slot w' gc 0 (.bool (bad || !allV f (setQ qs))) ∧ Below gc w w') := by
  have HO := Lib.hid h
  have HV := Lib.hid hv
  have HS := Lib.hid hs
  have HM := Lib.hid hm
  have HOl := Lib.hid hold
  have HG := Lib.hid hg
  have hgc := lt_of_cell hs.1
  have hpos := setQ_pos (cs := qs) (by omega)
  have hsl := setQ_len qs
  have HUn := Lib.hid (show ∀ x ∈ setQ qs, unitQ x.1 x.2 = true from fun x hx => hu x ((setQ_mem qs x).1 hx))
  clear h hv hs hm hold hg
  go_enter Tryz.func100, Tryz.ntmps100
  go_wp2_with fail
  refine (rising_is (gc + 1) _ _ _ HO.out ho (by omega)).mono ?_
  rintro e w1 ⟨r1, rfl, os1, he, hb1⟩
  have B1 : Below (gc + 1) w w1 := by
    obtain ⟨k, hk, hk2⟩ : ∃ k, gc + 1 ≤ k ∧ ∀ b, v.ownBlock = some b → b = k := by
      rcases hv : v.ownBlock with _ | b
      · exact ⟨gc + 1, Nat.le_refl _, fun b hb => by simp at hb⟩
      · exact ⟨b, (World.ownsRow.lt HO.out b hv).1, fun c hc => by simpa using hc.symm⟩
    exact But.below (Below.refl (gc + 1) w) (hb1 k hk2) hk (by omega)
  obtain ⟨g1, cap1, rfl, hc1, hc2, hlo, hg1, hcell1⟩ := os1.lit (n := (setQ qs).length) rfl hpos
  unfold maxLen at hc2
  have hne : gc < g1 := by
    have h9 : gc + 1 ≤ g1 := (World.ownsRow.lt os1 g1 rfl).1
    omega
  have HC1 := Lib.hid hcell1
  have HB1 := Lib.hid B1
  have HS1 := Lib.hid (slot_below B1 (by omega) HS.out)
  have HG1 := Lib.hid ((B1.cell (p := ⟨gf, 0, none⟩) (show gf < gc + 1 by omega)).trans HG.out)
  have HV1 := Lib.hid (HV.out.keepB (B1.mono (by omega : gc ≤ gc + 1)) HOl.out)
  clear os1 hb1 he hcell1 B1 hlo HO HS HG
  go_wp2_with fail
  go_name_world W0 hW
  rw [hW] at HC1 HB1 HS1 HG1 HV1 hg1
  have zA := lt_of_cell HS1.out.1
  clear hW
  generalize hqs : setQ qs = cs at *
  go_loopw [5, 11] (fun out i wr => RelPt f cs bad gc W0 out i wr) (fun _ i _ => cs.length - (intOf i).toNat)
  case atStart => exact ⟨0, Nat.zero_le _, rfl, World.ownsRow_nil _ _ _ _, by unfold allV; simpa using HS1.out, But.refl _ _⟩
  case round =>
    obtain ⟨k, hk2, rfl, hown, hsl2, hbu⟩ := hrel
    have HOw := Lib.hid hown
    have HSl := Lib.hid hsl2
    have hzr := hbu.size
    clear hown hsl2
    by_cases hlt2 : k < cs.length
    · have hx := List.getElem?_eq_getElem hlt2
      generalize cs[k] = x at *
      obtain ⟨c0, c1⟩ := HC1.out k _ hx
      have ux := HUn.out _ (List.mem_of_getElem? hx)
      have HSn := Lib.hid (map_take_snoc (refPt f) hx)
      have hal : allV f (cs.take (k + 1)) = (allV f (cs.take k) && (valQ f x).2) := by unfold allV; rw [take_snoc_get hx, List.all_append]; simp
      obtain ⟨x1, x2⟩ := x
      rcases hy : valQ f (x1, x2) with ⟨⟨y1, y2⟩, ty⟩
      have hpt : refPt f (x1, x2) = ((x1, x2), y1, y2) := by unfold refPt; rw [hy]
      rw [hpt] at HSn
      rw [hy] at hal
      have HAl := Lib.hid hal
      replace c0 := cellU hbu (by omega) c0
      replace c1 := cellU hbu (by omega) c1
      have hvr : RdP wr vf f := HV1.out.keepU hbu HOl.out
      have HVr := Lib.hid hvr
      have HGr := Lib.hid (cellU hbu (by omega) HG1.out)
      have HFn := Lib.hid (fun W bd (h1 : Slot W gc 0 (.bool bd)) (h2 : W.cell? ⟨gf, 0, none⟩ = some vf) (h3 : RdP W vf f) => refF_is f vf x1 x2 y1 y2 ty bd _ gc gf W h1 h2 h3 HOl.out HM.out ux hy rfl)
      have b0 : (0 : Int) ≤ (k : Int) := by omega
      have b1 : (k : Int) < (cs.length : Int) := by omega
      have v2 : IntKind.i64.wrap ((k : Int) + 1) = (k : Int) + 1 := IntWalk.i64_in _ (by omega)
      have v3 : IntKind.i64.wrap (k : Int) = (k : Int) := IntWalk.i64_in _ (by omega)
      have hln : ((cs.map (refPt f)).take k).length ≤ 60 := by rw [List.length_take, List.length_map]; omega
      clear hx ux hal hy hpt hvr
      go_wp2_with fail
      go_name_world W4 hW4
      have hX4 : Below wr.heap.size wr W4 := by rw [← hW4]; go_grown
      have x0 : W4.cell? ⟨wr.heap.size, 0, none⟩ = some (.int .i64 x1) := by rw [← hW4]; simp [go_sem]
      have x1' : W4.cell? ⟨wr.heap.size, 1, none⟩ = some (.int .i64 x2) := by rw [← hW4]; simp [go_sem]
      have G4 := Lib.hid (slotB hX4 HSl.out)
      have O4 := Lib.hid (HOw.out.keep hX4)
      have V4 := Lib.hid (HVr.out.keep hX4)
      have C4 := Lib.hid (cellB hX4 HGr.out)
      have hbu4 : But gc W0 W4 := hbu.trans (But.of_below hX4 (Nat.le_refl _))
      have hz5 : wr.heap.size < W4.heap.size := lt_of_cell x0
      clear hW4 hX4 c0 c1 HOw HVr HGr
      refine wp_region_HT (S := fun w' => w'.cell? ⟨wr.heap.size, 0, none⟩ = some (.int .i64 x1) ∧ w'.cell? ⟨wr.heap.size, 1, none⟩ = some (.int .i64 x2)) 7 (by kernel_rfl) (by kernel_rfl) ?_
      have hS0 : (fun w' : World => w'.cell? ⟨wr.heap.size, 0, none⟩ = some (.int .i64 x1) ∧ w'.cell? ⟨wr.heap.size, 1, none⟩ = some (.int .i64 x2)) _ := ⟨x0, x1'⟩
      refine HT.take' (i := 0) (v := ?_) rfl (by kernel_rfl) (by decide) (by kernel_rfl) (by kernel_rfl) (fun _ _ _ h => h) (by rfl) (fun w' hS => ?_) hS0 ?_
      rotate_left
      focus
        obtain ⟨k0, k1⟩ := hS
        go_simp
        try with_reducible rfl
        done
      simp only [Act.put, List.setIfInBounds_toArray, List.set_cons_zero, List.set_cons_succ]
      refine HT.take' (i := 1) (v := ?_) rfl (by kernel_rfl) (by decide) (by kernel_rfl) (by kernel_rfl) (fun _ _ _ h => h) (by rfl) (fun w' hS => ?_) hS0 ?_
      rotate_left
      focus
        obtain ⟨k0, k1⟩ := hS
        go_simp
        try with_reducible rfl
        done
      simp only [Act.put, List.setIfInBounds_toArray, List.set_cons_zero, List.set_cons_succ]
      refine HT.take' (i := 2) (v := ?_) rfl (by kernel_rfl) (by decide) (by kernel_rfl) (by kernel_rfl) (fun _ _ _ h => h) (by rfl) (fun w' hS => ?_) hS0 ?_
      rotate_left
      focus
        obtain ⟨k0, k1⟩ := hS
        go_simp
        try with_reducible rfl
        done
      simp only [Act.put, List.setIfInBounds_toArray, List.set_cons_zero, List.set_cons_succ]
      refine HT.take' (i := 3) (v := ?_) rfl (by kernel_rfl) (by decide) (by kernel_rfl) (by kernel_rfl) (fun _ _ _ h => h) (by rfl) (fun w' hS => ?_) hS0 ?_
      rotate_left
      focus
        obtain ⟨k0, k1⟩ := hS
        go_simp
        try with_reducible rfl
        done
      simp only [Act.put, List.setIfInBounds_toArray, List.set_cons_zero, List.set_cons_succ]
      refine HT.one' (i := 4) rfl (by decide) (by kernel_rfl) (fun K hK => ?_)
      go_simp
      refine (HFn.out _ _ (slotB (by go_grown) G4.out) (cellB (by go_grown) C4.out) (V4.out.keep (by go_grown))).mono ?_
      rintro e w5 ⟨rfl, g5, k5'⟩
      have hk5 : But gc W4 w5 := (But.of_below (by go_grown : Below W4.heap.size W4 _) (Nat.le_refl _)).trans k5'
      go_wp2_with fail
      have hS1 : (fun w' : World => w'.cell? ⟨wr.heap.size, 0, none⟩ = some (.int .i64 x1) ∧ w'.cell? ⟨wr.heap.size, 1, none⟩ = some (.int .i64 x2)) _ := ⟨cellU hk5 (by omega) x0, cellU hk5 (by omega) x1'⟩
      refine hK _ _ hS1 ?_
      clear hK
      try simp only [Act.put, List.setIfInBounds_toArray, List.set_cons_zero, List.set_cons_succ]
      refine HT.take' (i := 5) (v := ?_) rfl (by kernel_rfl) (by decide) (by kernel_rfl) (by kernel_rfl) (fun _ _ _ h => h) (by rfl) (fun w' hS => ?_) hS1 ?_
      rotate_left
      focus
        obtain ⟨k0, k1⟩ := hS
        go_simp
        try with_reducible rfl
        done
      simp only [Act.put, List.setIfInBounds_toArray, List.set_cons_zero, List.set_cons_succ]
      refine HT.one' (i := 6) rfl (by decide) (by kernel_rfl) (fun K hK => ?_)
      go_simp
      refine hK _ _ ⟨cellB (by go_grown) (cellU hk5 (by omega) x0), cellB (by go_grown) (cellU hk5 (by omega) x1')⟩ ?_
      clear hK
      try simp only [Act.put, List.setIfInBounds_toArray, List.set_cons_zero, List.set_cons_succ]
      refine HT.done (by kernel_rfl) ?_
      simp only [List.drop_succ_cons, List.drop_zero]
      have HBu5 := Lib.hid (hbu4.trans hk5)
      have HG5 := Lib.hid g5
      have HO5 := Lib.hid (O4.out.keepU hk5 (O4.out.ne_lowP (by omega)))
      have hz6 : W4.heap.size ≤ w5.heap.size := hk5.size
      clear hS0 hS1 k5' hk5 g5 x0 x1' hbu4 G4
      go_wp2_with (at_builtin; refine append_p1 _ rfl _ _ rfl W0.heap.size _ ((cs.map (refPt f)).take k) rfl ?own _ _ x1 x2 y1 y2 rfl ?c0 ?c1 ?c2 ?c3 ?len ?base ?_)
      case own => exact HO5.out.keep (by go_grown)
      try (case c0 => simp [go_sem])
      try (case c1 => simp [go_sem])
      try (case c2 => simp [go_sem])
      try (case c3 => simp [go_sem])
      case len => omega
      case base => go_size
      intro v' w' hown h7
      have hX7 : Below W0.heap.size w5 w' := Below.trans (by go_grown) h7
      have HO7 := Lib.hid hown
      have HS7 := Lib.hid (slot_below hX7 (by omega) HG5.out)
      have HBu7 := Lib.hid (But.then_below HBu5.out hX7)
      clear hown h7 hX7
      go_wp2_with fail
      go_roundw
      case rel => exact ⟨k + 1, by omega, by go_num, by rw [HSn.out]; exact HO7.out, by rw [HAl.out]; have := HS7.out; cases h1 : allV f (cs.take k) <;> cases ty <;> cases bad <;> simpa [h1] using this, HBu7.out⟩
      case measure => simp [intOf]; omega
    · obtain rfl : k = cs.length := by omega
      have HE := Lib.hid (show OwP W0.heap.size 51 wr u5 (cs.map (refPt f)) by have := HOw.out; rwa [List.take_of_length_le (by simp)] at this)
      have hS := HSl.out
      rw [List.take_length] at hS
      have HSs := Lib.hid hS
      have hBl : Below gc w wr := (HB1.out.mono (by omega : gc ≤ gc + 1)).trans ⟨hbu.os, hbu.tape, hbu.output, hbu.size, fun b hb => hbu.block b (by omega) (by omega)⟩
      have HBl := Lib.hid hBl
      clear HOw hS hBl
      go_wp2_with fail
      go_ret
      rw [← hqs] at HE HSs
      exact ⟨_, rfl, HE.out.low (show gc + 1 ≤ W0.heap.size from zA), HSs.out, HBl.out⟩

end Go.Proofs.YtkeajfgcjmhmiaaGreat
