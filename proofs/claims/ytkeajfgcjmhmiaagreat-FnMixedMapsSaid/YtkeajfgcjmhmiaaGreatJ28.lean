/- pointsAt of the program with the closure of composed. -/
import Derived.Test.YtkeajfgcjmhmiaaGreatJ22
import Derived.Test.YtkeajfgcjmhmiaaGreatJ27
namespace Go.Proofs.YtkeajfgcjmhmiaaGreat
open Go.RowKit

def comPt (f g : List Pt) (x : Q) : Pt := (x, comV f g x)
def allC (f g : List Pt) (qs : List Q) : Bool := qs.all (comT f g)

set_option maxRecDepth 100000 in
set_option maxHeartbeats 3200000 in
theorem comF_is (f g : List Pt) (vf vg : Value) (x1 x2 m1 m2 : Int) (bad bad' : Bool) (gc gf gg : Nat) (w : World) (hs : Slot w gc 0 (.bool bad)) (hc : Cap2 gf gg vf vg f g w) (of' : Old gc vf) (og : Old gc vg) (hm1 : okMap f = true) (hm2 : okMap g = true) (n1 : gf < gc) (n2 : gg < gc) (hx : unitQ x1 x2 = true) (hy : comV f g (x1, x2) = (m1, m2)) (hb : (bad || !comT f g (x1, x2)) = bad') :
    Calls Tryz.prog 141 #[.agg #[.int .i64 x1, .int .i64 x2], .pointer (some ⟨gc, 0, none⟩), .pointer (some ⟨gf, 0, none⟩), .pointer (some ⟨gg, 0, none⟩)] w (KeepEnd gc m1 m2 bad' w) := by
  have HS := Lib.hid hs
  have HCp := Lib.hid hc
  have HOf := Lib.hid of'
  have HOg := Lib.hid og
  have hgc := lt_of_cell hs.1
  obtain ⟨A1, k1, c1, rfl⟩ : ∃ A n c, vf = .slice A n c := by
    obtain ⟨A, c, rfl, -⟩ := hc.rf
    exact ⟨_, _, _, rfl⟩
  obtain ⟨A2, k2, c2, rfl⟩ : ∃ A n c, vg = .slice A n c := by
    obtain ⟨A, c, rfl, -⟩ := hc.rg
    exact ⟨_, _, _, rfl⟩
  unfold comV at hy
  unfold comT at hb
  rcases hvg : valQ g (x1, x2) with ⟨⟨z1, z2⟩, tz⟩
  have uz : unitQ z1 z2 = true := by have := valQ_unit (x := (x1, x2)) hm2 hx; rw [hvg] at this; exact this
  rw [hvg] at hy hb
  simp only at hy hb
  rcases hvf : valQ f (z1, z2) with ⟨⟨y1, y2⟩, ty⟩
  rw [hvf] at hy hb
  simp only at hy hb
  obtain ⟨rfl, rfl⟩ := Prod.mk.inj hy
  have HVg := Lib.hid (fun W bd (h1 : Slot W gc 0 (.bool bd)) (h2 : RdP W (.slice A2 k2 c2) g) => value_is g _ x1 x2 z1 z2 tz bd _ gc W h1 h2 og hm2 hx hvg rfl)
  have HVf := Lib.hid (fun W bd (h1 : Slot W gc 0 (.bool bd)) (h2 : RdP W (.slice A1 k1 c1) f) => value_is f _ z1 z2 y1 y2 ty bd _ gc W h1 h2 of' hm1 uz hvf rfl)
  have HBd := Lib.hid (show ((bad || !tz) || !ty) = bad' from by rw [← hb]; cases bad <;> cases ty <;> cases tz <;> rfl)
  clear hs hc of' og hm1 hm2 hx hy hb hvf hvg uz
  go_enter Tryz.func141, Tryz.ntmps141
  go_wp2_with fail
  go_name_world W hW
  have hB : Below w.heap.size w W := by rw [← hW]; go_grown
  have x0 : W.cell? ⟨w.heap.size, 0, none⟩ = some (.int .i64 x1) := by rw [← hW]; simp [go_sem]
  have x1' : W.cell? ⟨w.heap.size, 1, none⟩ = some (.int .i64 x2) := by rw [← hW]; simp [go_sem]
  have R0 : Slot W (w.heap.size + 1) 0 (.int .i64 0) := by rw [← hW]; exact ⟨by simp [go_sem], by simp [go_sem]⟩
  have R1 : Slot W (w.heap.size + 1) 1 (.int .i64 0) := by rw [← hW]; exact ⟨by simp [go_sem], by simp [go_sem]⟩
  have HSW := Lib.hid (slotB hB HS.out)
  have HCW := Lib.hid (HCp.out.keep hB)
  have f0 := HCW.out.cf
  have g0 := HCW.out.cg
  have HRR := Lib.hid (And.intro R0 R1)
  clear hW R0 R1
  refine wp_region_HT (S := fun w' => w'.cell? ⟨gf, 0, none⟩ = some (.slice A1 k1 c1) ∧ w'.cell? ⟨gg, 0, none⟩ = some (.slice A2 k2 c2) ∧ w'.cell? ⟨w.heap.size, 0, none⟩ = some (.int .i64 x1) ∧ w'.cell? ⟨w.heap.size, 1, none⟩ = some (.int .i64 x2)) 5 (by kernel_rfl) (by kernel_rfl) ?_
  have hS0 : (fun w' : World => w'.cell? ⟨gf, 0, none⟩ = some (.slice A1 k1 c1) ∧ w'.cell? ⟨gg, 0, none⟩ = some (.slice A2 k2 c2) ∧ w'.cell? ⟨w.heap.size, 0, none⟩ = some (.int .i64 x1) ∧ w'.cell? ⟨w.heap.size, 1, none⟩ = some (.int .i64 x2)) _ := ⟨f0, g0, x0, x1'⟩
  refine HT.take' (i := 0) (v := ?_) rfl (by kernel_rfl) (by decide) (by kernel_rfl) (by kernel_rfl) (fun _ _ _ h => h) (by rfl) (fun w' hS => ?_) hS0 ?_
  rotate_left
  focus
    obtain ⟨k0, k1, k2, k3⟩ := hS
    go_simp
    try with_reducible rfl
    done
  simp only [Act.put, List.setIfInBounds_toArray, List.set_cons_zero, List.set_cons_succ]
  refine HT.take' (i := 1) (v := ?_) rfl (by kernel_rfl) (by decide) (by kernel_rfl) (by kernel_rfl) (fun _ _ _ h => h) (by rfl) (fun w' hS => ?_) hS0 ?_
  rotate_left
  focus
    obtain ⟨k0, k1, k2, k3⟩ := hS
    go_simp
    try with_reducible rfl
    done
  simp only [Act.put, List.setIfInBounds_toArray, List.set_cons_zero, List.set_cons_succ]
  refine HT.take' (i := 2) (v := ?_) rfl (by kernel_rfl) (by decide) (by kernel_rfl) (by kernel_rfl) (fun _ _ _ h => h) (by rfl) (fun w' hS => ?_) hS0 ?_
  rotate_left
  focus
    obtain ⟨k0, k1, k2, k3⟩ := hS
    go_simp
    try with_reducible rfl
    done
  simp only [Act.put, List.setIfInBounds_toArray, List.set_cons_zero, List.set_cons_succ]
  refine HT.one' (i := 3) rfl (by decide) (by kernel_rfl) (fun K hK => ?_)
  go_simp
  refine (HVg.out _ _ (slotB (by go_grown) HSW.out) (HCW.out.rg.keep (by go_grown))).mono ?_
  rintro e w2 ⟨rfl, g2, k2'⟩
  have hk2 : But gc W w2 := (But.of_below (by go_grown : Below W.heap.size W _) (Nat.le_refl _)).trans k2'
  go_wp2_with fail
  have hS1 : (fun w' : World => w'.cell? ⟨gf, 0, none⟩ = some (.slice A1 k1 c1) ∧ w'.cell? ⟨gg, 0, none⟩ = some (.slice A2 k2 c2) ∧ w'.cell? ⟨w.heap.size, 0, none⟩ = some (.int .i64 x1) ∧ w'.cell? ⟨w.heap.size, 1, none⟩ = some (.int .i64 x2)) _ := ⟨cellU hk2 (by omega) f0, cellU hk2 (by omega) g0, cellU hk2 (by omega) x0, cellU hk2 (by omega) x1'⟩
  refine hK _ _ hS1 ?_
  clear hK
  try simp only [Act.put, List.setIfInBounds_toArray, List.set_cons_zero, List.set_cons_succ]
  refine HT.one' (i := 4) rfl (by decide) (by kernel_rfl) (fun K hK => ?_)
  go_simp
  refine (HVf.out _ _ g2 (HCW.out.rf.keepU hk2 HOf.out)).mono ?_
  rintro e w9 ⟨rfl, g9, k9'⟩
  have hk9 : But gc W w9 := hk2.trans k9'
  go_wp2_with fail
  have hS2 : (fun w' : World => w'.cell? ⟨gf, 0, none⟩ = some (.slice A1 k1 c1) ∧ w'.cell? ⟨gg, 0, none⟩ = some (.slice A2 k2 c2) ∧ w'.cell? ⟨w.heap.size, 0, none⟩ = some (.int .i64 x1) ∧ w'.cell? ⟨w.heap.size, 1, none⟩ = some (.int .i64 x2)) _ := ⟨cellU hk9 (by omega) f0, cellU hk9 (by omega) g0, cellU hk9 (by omega) x0, cellU hk9 (by omega) x1'⟩
  refine hK _ _ hS2 ?_
  clear hK
  try simp only [Act.put, List.setIfInBounds_toArray, List.set_cons_zero, List.set_cons_succ]
  refine HT.done (by kernel_rfl) ?_
  simp only [List.drop_succ_cons, List.drop_zero]
  have HBu := Lib.hid hk9
  have HG9 := Lib.hid g9
  obtain ⟨r0, r0'⟩ := slotU hk9 (by omega) HRR.out.1
  obtain ⟨r1, r1'⟩ := slotU hk9 (by omega) HRR.out.2
  clear hS0 hS1 hS2 k2' k9' hk2 hk9 g2 g9 x0 x1' f0 g0
  go_wp2_with fail
  refine bodyPost_ret (v := .agg #[.int .i64 y1, .int .i64 y2]) (by simp [results, Tryz.results141, go_sem, r0, r1]) rfl ⟨rfl, ?_, ?_⟩
  · have h9 := HG9.out
    rw [HBd.out] at h9
    refine slotS (slotS h9 ?_) ?_ <;> simp <;> omega
  · refine But.setNew (But.setNew ((But.of_below hB (Nat.le_refl _)).trans HBu.out) ?_ _) ?_ _ <;> omega

def RelPco (f g : List Pt) (qs : List Q) (bad : Bool) (gc : Nat) (W0 : World) (out i : Value) (wr : World) : Prop :=
  ∃ k : Nat, k ≤ qs.length ∧ i = .int .i64 k ∧ OwP W0.heap.size 51 wr out ((qs.map (comPt f g)).take k) ∧ Slot wr gc 0 (.bool (bad || !allC f g (qs.take k))) ∧ But gc W0 wr

set_option maxRecDepth 100000 in
set_option maxHeartbeats 6400000 in
theorem ptsCom_is (f g : List Pt) (qs : List Q) (v vf vg : Value) (bad : Bool) (gc gf gg : Nat) (w : World) (h : OwQ (gc + 1) 31 w v qs) (ho : OkL qs) (hu : ∀ x ∈ qs, unitQ x.1 x.2 = true) (hn : 1 ≤ qs.length ∧ qs.length ≤ 400) (hs : Slot w gc 0 (.bool bad)) (hcp : Cap2 gf gg vf vg f g w) (n1 : gf < gc) (n2 : gg < gc) (of' : Old gc vf) (og : Old gc vg) (hm1 : okMap f = true) (hm2 : okMap g = true) :
    Calls Tryz.prog 100 #[v, .func (.func 141) #[] #[.pointer (some ⟨gc, 0, none⟩), .pointer (some ⟨gf, 0, none⟩), .pointer (some ⟨gg, 0, none⟩)]] w (fun e w' => ∃ r, e = .returned r ∧ OwP (gc + 1) 51 w' r ((setQ qs).map (comPt f g)) ∧ Slot w' gc 0 (.bool (bad || !allC f g (setQ qs))) ∧ Below gc w w') := by
  have HO := Lib.hid h
  have HCp := Lib.hid hcp
  have HS := Lib.hid hs
  have HOf := Lib.hid of'
  have HOg := Lib.hid og
  have HM1 := Lib.hid hm1
  have HM2 := Lib.hid hm2
  have hgc := lt_of_cell hs.1
  have hpos := setQ_pos2 (cs := qs) (by omega)
  have hsl := setQ_len qs
  have HUn := Lib.hid (show ∀ x ∈ setQ qs, unitQ x.1 x.2 = true from fun x hx => hu x ((setQ_mem qs x).1 hx))
  clear h hcp hs of' og hm1 hm2
  go_enter Tryz.func100, Tryz.ntmps100
  go_wp2_with fail
  refine (rising_is (gc + 1) _ _ _ HO.out ho (by omega)).mono ?_
  rintro e w1 ⟨r1, rfl, os1, he, hb1⟩
  have B1 : Below (gc + 1) w w1 := by
    obtain ⟨k, hk, hk2⟩ : ∃ k, gc + 1 ≤ k ∧ ∀ b, v.ownBlock = some b → b = k := by
      rcases hv : v.ownBlock with _ | b
      · exact ⟨gc + 1, Nat.le_refl _, fun b hb => by simp at hb⟩
      · exact ⟨b, (World.ownsRow.lt HO.out b hv).1, fun c hc => by simpa using hc.symm⟩
    exact But.below (Below.refl (gc + 1) w) (hb1 k hk2) hk (by omega)
  obtain ⟨g1, cap1, rfl, hc1, hc2, hlo, hg1, hcell1⟩ := os1.lit (n := (setQ qs).length) rfl hpos
  unfold maxLen at hc2
  have hne : gc < g1 := by
    have h9 : gc + 1 ≤ g1 := (World.ownsRow.lt os1 g1 rfl).1
    omega
  have HC1 := Lib.hid hcell1
  have HB1 := Lib.hid B1
  have HS1 := Lib.hid (slot_below B1 (by omega) HS.out)
  have HCp1 := Lib.hid (HCp.out.keepB (B1.mono (by omega : gc ≤ gc + 1)) n1 n2 HOf.out HOg.out)
  clear os1 hb1 he hcell1 B1 hlo HO HS HCp
  go_wp2_with fail
  go_name_world W0 hW
  rw [hW] at HC1 HB1 HS1 HCp1 hg1
  have zA := lt_of_cell HS1.out.1
  clear hW
  generalize hqs : setQ qs = cs at *
  go_loopw [5, 11] (fun out i wr => RelPco f g cs bad gc W0 out i wr) (fun _ i _ => cs.length - (intOf i).toNat)
  case atStart => exact ⟨0, Nat.zero_le _, rfl, World.ownsRow_nil _ _ _ _, by unfold allC; simpa using HS1.out, But.refl _ _⟩
  case round =>
    obtain ⟨k, hk2, rfl, hown, hsl2, hbu⟩ := hrel
    have HOw := Lib.hid hown
    have HSl := Lib.hid hsl2
    have hzr := hbu.size
    clear hown hsl2
    by_cases hlt2 : k < cs.length
    · have hx := List.getElem?_eq_getElem hlt2
      generalize cs[k] = x at *
      obtain ⟨c0, c1⟩ := HC1.out k _ hx
      have ux := HUn.out _ (List.mem_of_getElem? hx)
      have HSn := Lib.hid (map_take_snoc (comPt f g) hx)
      have hal : allC f g (cs.take (k + 1)) = (allC f g (cs.take k) && comT f g x) := by unfold allC; rw [take_snoc_get hx, List.all_append]; simp
      obtain ⟨x1, x2⟩ := x
      rcases hy : comV f g (x1, x2) with ⟨y1, y2⟩
      obtain ⟨ty, hty⟩ : ∃ ty, comT f g (x1, x2) = ty := ⟨_, rfl⟩
      have hpt : comPt f g (x1, x2) = ((x1, x2), y1, y2) := by unfold comPt; rw [hy]
      rw [hpt] at HSn
      rw [hty] at hal
      have HAl := Lib.hid hal
      replace c0 := cellU hbu (by omega) c0
      replace c1 := cellU hbu (by omega) c1
      have HCr := Lib.hid (HCp1.out.keepU hbu (by omega) (by omega) HOf.out HOg.out)
      have HFn := Lib.hid (fun W bd (h1 : Slot W gc 0 (.bool bd)) (h2 : Cap2 gf gg vf vg f g W) => comF_is f g vf vg x1 x2 y1 y2 bd (bd || !ty) gc gf gg W h1 h2 HOf.out HOg.out HM1.out HM2.out n1 n2 ux hy (by rw [hty]))
      have b0 : (0 : Int) ≤ (k : Int) := by omega
      have b1 : (k : Int) < (cs.length : Int) := by omega
      have v2 : IntKind.i64.wrap ((k : Int) + 1) = (k : Int) + 1 := IntWalk.i64_in _ (by omega)
      have v3 : IntKind.i64.wrap (k : Int) = (k : Int) := IntWalk.i64_in _ (by omega)
      have hln : ((cs.map (comPt f g)).take k).length ≤ 400 := by rw [List.length_take, List.length_map]; omega
      clear hx ux hal hy hty hpt
      go_wp2_with fail
      go_name_world W4 hW4
      have hX4 : Below wr.heap.size wr W4 := by rw [← hW4]; go_grown
      have x0 : W4.cell? ⟨wr.heap.size, 0, none⟩ = some (.int .i64 x1) := by rw [← hW4]; simp [go_sem]
      have x1' : W4.cell? ⟨wr.heap.size, 1, none⟩ = some (.int .i64 x2) := by rw [← hW4]; simp [go_sem]
      have G4 := Lib.hid (slotB hX4 HSl.out)
      have O4 := Lib.hid (HOw.out.keep hX4)
      have V4 := Lib.hid (HCr.out.keep hX4)
      have hbu4 : But gc W0 W4 := hbu.trans (But.of_below hX4 (Nat.le_refl _))
      have hz5 : wr.heap.size < W4.heap.size := lt_of_cell x0
      clear hW4 hX4 c0 c1 HOw HCr
      refine wp_region_HT (S := fun w' => w'.cell? ⟨wr.heap.size, 0, none⟩ = some (.int .i64 x1) ∧ w'.cell? ⟨wr.heap.size, 1, none⟩ = some (.int .i64 x2)) 7 (by kernel_rfl) (by kernel_rfl) ?_
      have hS0 : (fun w' : World => w'.cell? ⟨wr.heap.size, 0, none⟩ = some (.int .i64 x1) ∧ w'.cell? ⟨wr.heap.size, 1, none⟩ = some (.int .i64 x2)) _ := ⟨x0, x1'⟩
      refine HT.take' (i := 0) (v := ?_) rfl (by kernel_rfl) (by decide) (by kernel_rfl) (by kernel_rfl) (fun _ _ _ h => h) (by rfl) (fun w' hS => ?_) hS0 ?_
      rotate_left
      focus
        obtain ⟨k0, k1⟩ := hS
        go_simp
        try with_reducible rfl
        done
      simp only [Act.put, List.setIfInBounds_toArray, List.set_cons_zero, List.set_cons_succ]
      refine HT.take' (i := 1) (v := ?_) rfl (by kernel_rfl) (by decide) (by kernel_rfl) (by kernel_rfl) (fun _ _ _ h => h) (by rfl) (fun w' hS => ?_) hS0 ?_
      rotate_left
      focus
        obtain ⟨k0, k1⟩ := hS
        go_simp
        try with_reducible rfl
        done
      simp only [Act.put, List.setIfInBounds_toArray, List.set_cons_zero, List.set_cons_succ]
      refine HT.take' (i := 2) (v := ?_) rfl (by kernel_rfl) (by decide) (by kernel_rfl) (by kernel_rfl) (fun _ _ _ h => h) (by rfl) (fun w' hS => ?_) hS0 ?_
      rotate_left
      focus
        obtain ⟨k0, k1⟩ := hS
        go_simp
        try with_reducible rfl
        done
      simp only [Act.put, List.setIfInBounds_toArray, List.set_cons_zero, List.set_cons_succ]
      refine HT.take' (i := 3) (v := ?_) rfl (by kernel_rfl) (by decide) (by kernel_rfl) (by kernel_rfl) (fun _ _ _ h => h) (by rfl) (fun w' hS => ?_) hS0 ?_
      rotate_left
      focus
        obtain ⟨k0, k1⟩ := hS
        go_simp
        try with_reducible rfl
        done
      simp only [Act.put, List.setIfInBounds_toArray, List.set_cons_zero, List.set_cons_succ]
      refine HT.one' (i := 4) rfl (by decide) (by kernel_rfl) (fun K hK => ?_)
      go_simp
      refine (HFn.out _ _ (slotB (by go_grown) G4.out) (V4.out.keep (by go_grown))).mono ?_
      rintro e w5 ⟨rfl, g5, k5'⟩
      have hk5 : But gc W4 w5 := (But.of_below (by go_grown : Below W4.heap.size W4 _) (Nat.le_refl _)).trans k5'
      go_wp2_with fail
      have hS1 : (fun w' : World => w'.cell? ⟨wr.heap.size, 0, none⟩ = some (.int .i64 x1) ∧ w'.cell? ⟨wr.heap.size, 1, none⟩ = some (.int .i64 x2)) _ := ⟨cellU hk5 (by omega) x0, cellU hk5 (by omega) x1'⟩
      refine hK _ _ hS1 ?_
      clear hK
      try simp only [Act.put, List.setIfInBounds_toArray, List.set_cons_zero, List.set_cons_succ]
      refine HT.take' (i := 5) (v := ?_) rfl (by kernel_rfl) (by decide) (by kernel_rfl) (by kernel_rfl) (fun _ _ _ h => h) (by rfl) (fun w' hS => ?_) hS1 ?_
      rotate_left
      focus
        obtain ⟨k0, k1⟩ := hS
        go_simp
        try with_reducible rfl
        done
      simp only [Act.put, List.setIfInBounds_toArray, List.set_cons_zero, List.set_cons_succ]
      refine HT.one' (i := 6) rfl (by decide) (by kernel_rfl) (fun K hK => ?_)
      go_simp
      refine hK _ _ ⟨cellB (by go_grown) (cellU hk5 (by omega) x0), cellB (by go_grown) (cellU hk5 (by omega) x1')⟩ ?_
      clear hK
      try simp only [Act.put, List.setIfInBounds_toArray, List.set_cons_zero, List.set_cons_succ]
      refine HT.done (by kernel_rfl) ?_
      simp only [List.drop_succ_cons, List.drop_zero]
      have HBu5 := Lib.hid (hbu4.trans hk5)
      have HG5 := Lib.hid g5
      have HO5 := Lib.hid (O4.out.keepU hk5 (O4.out.ne_low2 (by omega)))
      have hz6 : W4.heap.size ≤ w5.heap.size := hk5.size
      clear hS0 hS1 k5' hk5 g5 x0 x1' hbu4 G4
      go_wp2_with (at_builtin; refine append_p1 _ rfl _ _ rfl W0.heap.size _ ((cs.map (comPt f g)).take k) rfl ?own _ _ x1 x2 y1 y2 rfl ?c0 ?c1 ?c2 ?c3 ?len ?base ?_)
      case own => exact HO5.out.keep (by go_grown)
      try (case c0 => simp [go_sem])
      try (case c1 => simp [go_sem])
      try (case c2 => simp [go_sem])
      try (case c3 => simp [go_sem])
      case len => omega
      case base => go_size
      intro v' w' hown h7
      have hX7 : Below W0.heap.size w5 w' := Below.trans (by go_grown) h7
      have HO7 := Lib.hid hown
      have HS7 := Lib.hid (slot_below hX7 (by omega) HG5.out)
      have HBu7 := Lib.hid (But.then_below HBu5.out hX7)
      clear hown h7 hX7
      go_wp2_with fail
      go_roundw
      case rel => exact ⟨k + 1, by omega, by go_num, by rw [HSn.out]; exact HO7.out, by rw [HAl.out]; have := HS7.out; cases h1 : allC f g (cs.take k) <;> cases ty <;> cases bad <;> simpa [h1] using this, HBu7.out⟩
      case measure => simp [intOf]; omega
    · obtain rfl : k = cs.length := by omega
      have HE := Lib.hid (show OwP W0.heap.size 51 wr u5 (cs.map (comPt f g)) by have := HOw.out; rwa [List.take_of_length_le (by simp)] at this)
      have hS := HSl.out
      rw [List.take_length] at hS
      have HSs := Lib.hid hS
      have hBl : Below gc w wr := (HB1.out.mono (by omega : gc ≤ gc + 1)).trans ⟨hbu.os, hbu.tape, hbu.output, hbu.size, fun b hb => hbu.block b (by omega) (by omega)⟩
      have HBl := Lib.hid hBl
      clear HOw hS hBl
      go_wp2_with fail
      go_ret
      rw [← hqs] at HE HSs
      exact ⟨_, rfl, HE.out.low (show gc + 1 ≤ W0.heap.size from zA), HSs.out, HBl.out⟩

end Go.Proofs.YtkeajfgcjmhmiaaGreat
