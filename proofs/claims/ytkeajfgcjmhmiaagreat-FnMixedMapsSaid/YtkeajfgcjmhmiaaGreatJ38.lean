/- The program's ClampMap. -/
import Derived.Test.YtkeajfgcjmhmiaaGreatJ29
import Derived.Test.YtkeajfgcjmhmiaaGreatJ37
namespace Go.Proofs.YtkeajfgcjmhmiaaGreat
open Go.RowKit

theorem OwQ.ne_lowK {base g : Nat} {e : TypeId} {w : World} {v : Value} {qs : List Q} (h : OwQ base e w v qs) (hg : g < base) : v.ownBlock ≠ some g := by
  intro hb
  have := (World.ownsRow.lt h g hb).1
  omega
theorem clampQ_no {f m : List Pt} {lo hi : Q} {t : Bool} (hl : clampQ f lo hi = (m, t)) (h : clampAsk f lo hi = false) : [] = m ∧ false = t := by
  unfold clampQ at hl; rw [if_neg (by rw [h]; simp)] at hl; exact Prod.mk.inj hl
theorem cut2 (f : List Pt) (lo hi : Q) : cutL f [lo, hi] 2 = f.map (·.1) ++ setQ (befL lo f f.length) ++ setQ (befL hi f f.length) := by
  unfold cutL; simp [List.append_assoc]
theorem cutBad2 (f : List Pt) (lo hi : Q) : cutBad f [lo, hi] 2 = (!befOk lo f || !befOk hi f) := by
  unfold cutBad; simp
theorem clampQ_fin {f m : List Pt} {lo hi : Q} {t : Bool} (hl : clampQ f lo hi = (m, t)) (h : clampAsk f lo hi = true) : (if (((false || befB lo f f.length) || befB hi f f.length) || !allV1 f (setQ (cutL f [lo, hi] 2))) = true then ([], false) else madeQ (clampL f lo hi)) = (m, t) := by
  unfold clampQ at hl
  rw [if_pos h] at hl
  rw [← hl, befB_end, befB_end, Bool.false_or, ← cutBad2]
  have e : cutBad f [lo, hi] 2 = !cutOk f [lo, hi] := cutBad_end f [lo, hi]
  rw [e]
  unfold clampOk allV1 clampXs cutAll
  show _ = if (cutOk f [lo, hi] && (setQ (cutL f [lo, hi] 2)).all (fun x => (valQ f x).2)) = true then madeQ (clampL f lo hi) else ([], false)
  cases cutOk f [lo, hi] <;> cases (setQ (cutL f [lo, hi] 2)).all (fun x => (valQ f x).2) <;> rfl

set_option maxRecDepth 100000 in
set_option maxHeartbeats 6400000 in
theorem iClampMap_is (f : List Pt) (vf : Value) (a1 a2 b1 b2 : Int) (m : List Pt) (t : Bool) (hl : clampQ f (a1, a2) (b1, b2) = (m, t)) (w : World) (hf : RdP w vf f) (hn : f.length ≤ 1048576) :
    Calls Tryz.prog 31 #[vf, .agg #[.int .i64 a1, .int .i64 a2], .agg #[.int .i64 b1, .int .i64 b2]] w (RetPB w m t) := by
  have HF := Lib.hid hf
  have HL := Lib.hid hl
  obtain ⟨A, c, rfl, -, -, -⟩ := hf
  clear hl
  rcases hm : okMap f with _ | _
  · have HM := Lib.hid hm
    obtain ⟨rfl, rfl⟩ := clampQ_no HL.out (show clampAsk f (a1, a2) (b1, b2) = false by unfold clampAsk; rw [hm]; rfl)
    clear hm
    go_enter Tryz.func31, Tryz.ntmps31
    go_wp2_with fail
    refine (isMap_is f _ false _ (HF.out.keep (by go_grown)) hn HM.out).mono ?_
    rintro e w1 ⟨rfl, hb⟩
    have hX : Below w.heap.size w w1 := nextX (by go_grown) hb
    have b00 : w1.cell? ⟨w.heap.size, 0, none⟩ = some (.slice A f.length c) := cellB hb (by simp [go_sem])
    have b10 : w1.cell? ⟨w.heap.size + 1, 0, none⟩ = some (.int .i64 a1) := cellB hb (by simp [go_sem])
    have b11 : w1.cell? ⟨w.heap.size + 1, 1, none⟩ = some (.int .i64 a2) := cellB hb (by simp [go_sem])
    have b20 : w1.cell? ⟨w.heap.size + 2, 0, none⟩ = some (.int .i64 b1) := cellB hb (by simp [go_sem])
    have b21 : w1.cell? ⟨w.heap.size + 2, 1, none⟩ = some (.int .i64 b2) := cellB hb (by simp [go_sem])
    have zb00 := lt_of_cell b00
    have zb10 := lt_of_cell b10
    have zb20 := lt_of_cell b20
    have hB : Below w.heap.size w w1 := hX
    clear hb hX
    go_wp2_with fail
    go_ret2
    exact ⟨_, rfl, World.ownsRow_nil _ _ _ _, hB⟩
  · have HM := Lib.hid hm
    rcases hu : (unitQ a1 a2 && unitQ b1 b2) with _ | _
    · have HU := Lib.hid hu
      obtain ⟨rfl, rfl⟩ := clampQ_no HL.out (show clampAsk f (a1, a2) (b1, b2) = false by unfold clampAsk; rw [hm]; show (true && unitQ a1 a2 && unitQ b1 b2 && _) = false; rw [Bool.true_and, hu]; rfl)
      clear hm hu
      go_enter Tryz.func31, Tryz.ntmps31
      go_wp2_with fail
      refine (isMap_is f _ true _ (HF.out.keep (by go_grown)) hn HM.out).mono ?_
      rintro e w1 ⟨rfl, hb⟩
      have hX : Below w.heap.size w w1 := nextX (by go_grown) hb
      have b00 : w1.cell? ⟨w.heap.size, 0, none⟩ = some (.slice A f.length c) := cellB hb (by simp [go_sem])
      have b10 : w1.cell? ⟨w.heap.size + 1, 0, none⟩ = some (.int .i64 a1) := cellB hb (by simp [go_sem])
      have b11 : w1.cell? ⟨w.heap.size + 1, 1, none⟩ = some (.int .i64 a2) := cellB hb (by simp [go_sem])
      have b20 : w1.cell? ⟨w.heap.size + 2, 0, none⟩ = some (.int .i64 b1) := cellB hb (by simp [go_sem])
      have b21 : w1.cell? ⟨w.heap.size + 2, 1, none⟩ = some (.int .i64 b2) := cellB hb (by simp [go_sem])
      have zb00 := lt_of_cell b00
      have zb10 := lt_of_cell b10
      have zb20 := lt_of_cell b20
      have hB : Below w.heap.size w w1 := hX
      clear hb hX
      go_wp2_with fail
      refine (areUnits_is [(a1, a2), (b1, b2)] _ false _ (RdQ.two (by simp) (by simp [go_sem]) (by simp [go_sem]) (by simp [go_sem]) (by simp [go_sem])) (by simp only [List.all_cons, List.all_nil, Bool.and_true]; exact HU.out)).mono ?_
      rintro e w2 ⟨rfl, hb⟩
      have hX : Below w1.heap.size w1 w2 := nextX (by go_grown) hb
      replace b00 := cellB hX b00
      replace b10 := cellB hX b10
      replace b11 := cellB hX b11
      replace b20 := cellB hX b20
      replace b21 := cellB hX b21
      have zb00 := Nat.lt_of_lt_of_le zb00 hX.size
      have zb10 := Nat.lt_of_lt_of_le zb10 hX.size
      have zb20 := Nat.lt_of_lt_of_le zb20 hX.size
      replace hB := nextW hB hX
      clear hb hX
      go_wp2_with fail
      go_ret2
      exact ⟨_, rfl, World.ownsRow_nil _ _ _ _, hB⟩
    · have HU := Lib.hid hu
      have ua : unitQ a1 a2 = true := by simp at hu; exact hu.1
      have ub : unitQ b1 b2 = true := by simp at hu; exact hu.2
      have HUa := Lib.hid ua
      have HUb := Lib.hid ub
      have SA := Lib.hid (Sm.of_ok (unitQ_ok ua))
      have SB := Lib.hid (Sm.of_ok (unitQ_ok ub))
      rcases hs : lessQ b1 b2 a1 a2 with _ | _
      · have hask : clampAsk f (a1, a2) (b1, b2) = true := by unfold clampAsk; rw [hm]; show (true && unitQ a1 a2 && unitQ b1 b2 && !lessQ b1 b2 a1 a2) = true; rw [Bool.true_and, hu, hs]; rfl
        have HFin := Lib.hid (clampQ_fin HL.out hask)
        have HLs := Lib.hid hs
        have HJ := Lib.hid (clampL_joined (lo := (a1, a2)) (hi := (b1, b2)) hm ua ub)
        have HOf := Lib.hid (fun (x : Nat) (hx : w.heap.size ≤ x) => HF.out.old (okMap_ne hm) (g := x) hx)
        have hlm := okMap_len hm
        have HUn := Lib.hid (cutL_unit (ys := [(a1, a2), (b1, b2)]) hm (two_ok (lo := (a1, a2)) (hi := (b1, b2)) ua ub) 2)
        have hlc := cutL_len f [(a1, a2), (b1, b2)] 2
        rw [show [(a1, a2), (b1, b2)].length = 2 from rfl] at hlc
        have hpc : 1 ≤ (cutL f [(a1, a2), (b1, b2)] 2).length := by rw [cut2]; simp only [List.length_append, List.length_map]; omega
        have HOa := Lib.hid (unitQ_ok ua)
        have HOb := Lib.hid (unitQ_ok ub)
        have hq1 := Nat.le_trans (setQ_len _) (befL_len (a1, a2) f f.length)
        have hq2 := Nat.le_trans (setQ_len _) (befL_len (b1, b2) f f.length)
        clear hm hu ua ub hs hask
        go_enter Tryz.func31, Tryz.ntmps31
        go_wp2_with fail
        refine (isMap_is f _ true _ (HF.out.keep (by go_grown)) hn HM.out).mono ?_
        rintro e w1 ⟨rfl, hb⟩
        have hX : Below w.heap.size w w1 := nextX (by go_grown) hb
        have b00 : w1.cell? ⟨w.heap.size, 0, none⟩ = some (.slice A f.length c) := cellB hb (by simp [go_sem])
        have b10 : w1.cell? ⟨w.heap.size + 1, 0, none⟩ = some (.int .i64 a1) := cellB hb (by simp [go_sem])
        have b11 : w1.cell? ⟨w.heap.size + 1, 1, none⟩ = some (.int .i64 a2) := cellB hb (by simp [go_sem])
        have b20 : w1.cell? ⟨w.heap.size + 2, 0, none⟩ = some (.int .i64 b1) := cellB hb (by simp [go_sem])
        have b21 : w1.cell? ⟨w.heap.size + 2, 1, none⟩ = some (.int .i64 b2) := cellB hb (by simp [go_sem])
        have zb00 := lt_of_cell b00
        have zb10 := lt_of_cell b10
        have zb20 := lt_of_cell b20
        have hB : Below w.heap.size w w1 := hX
        clear hb hX
        go_wp2_with fail
        refine (areUnits_is [(a1, a2), (b1, b2)] _ true _ (RdQ.two (by simp) (by simp [go_sem]) (by simp [go_sem]) (by simp [go_sem]) (by simp [go_sem])) (by simp only [List.all_cons, List.all_nil, Bool.and_true]; exact HU.out)).mono ?_
        rintro e w2 ⟨rfl, hb⟩
        have hX : Below w1.heap.size w1 w2 := nextX (by go_grown) hb
        replace b00 := cellB hX b00
        replace b10 := cellB hX b10
        replace b11 := cellB hX b11
        replace b20 := cellB hX b20
        replace b21 := cellB hX b21
        have zb00 := Nat.lt_of_lt_of_le zb00 hX.size
        have zb10 := Nat.lt_of_lt_of_le zb10 hX.size
        have zb20 := Nat.lt_of_lt_of_le zb20 hX.size
        replace hB := nextW hB hX
        clear hb hX
        go_wp2_with fail
        refine (less_any b1 b2 a1 a2 SB.out.1 SB.out.2 SA.out.1 SA.out.2 _).mono ?_
        rintro e w3 ⟨he, hb⟩
        rw [HLs.out] at he
        subst he
        have hX : Below w2.heap.size w2 w3 := nextX (by go_grown) hb
        replace b00 := cellB hX b00
        replace b10 := cellB hX b10
        replace b11 := cellB hX b11
        replace b20 := cellB hX b20
        replace b21 := cellB hX b21
        have zb00 := Nat.lt_of_lt_of_le zb00 hX.size
        have zb10 := Nat.lt_of_lt_of_le zb10 hX.size
        have zb20 := Nat.lt_of_lt_of_le zb20 hX.size
        replace hB := nextW hB hX
        clear hb hX
        have zw := hB.size
        have z0 : w.heap.size < w3.heap.size := by omega
        have z1 : w.heap.size + 1 < w3.heap.size := by omega
        have z2 : w.heap.size + 2 < w3.heap.size := by first | assumption | omega
        go_wp2_with fail
        go_name_world W hW
        have hX : Below w3.heap.size w3 W := by rw [← hW]; go_grown
        have f0 := cellB hX b00
        have l0 := cellB hX b10
        have l1' := cellB hX b11
        have h0 := cellB hX b20
        have h1' := cellB hX b21
        have sc : Slot W w3.heap.size 0 (.bool false) := by rw [← hW]; exact ⟨by simp [go_sem], by simp [go_sem]⟩
        have HSc := Lib.hid sc
        have hBW := nextW hB hX
        have zW : w3.heap.size < W.heap.size := lt_of_cell sc.1
        have HCp := Lib.hid (show CapK w.heap.size (w.heap.size + 1) (w.heap.size + 2) (.slice A f.length c) f (a1, a2) (b1, b2) W from ⟨f0, HF.out.keep hBW, l0, l1', h0, h1'⟩)
        clear hW hX b00 b10 b11 b20 b21 zb00 zb10 zb20 hB h0 h1' sc
        refine wp_region_HT (S := fun w' => w'.cell? ⟨w.heap.size, 0, none⟩ = some (.slice A f.length c) ∧ w'.cell? ⟨w.heap.size + 1, 0, none⟩ = some (.int .i64 a1) ∧ w'.cell? ⟨w.heap.size + 1, 1, none⟩ = some (.int .i64 a2)) 5 (by kernel_rfl) (by kernel_rfl) ?_
        have hS0 : (fun w' : World => w'.cell? ⟨w.heap.size, 0, none⟩ = some (.slice A f.length c) ∧ w'.cell? ⟨w.heap.size + 1, 0, none⟩ = some (.int .i64 a1) ∧ w'.cell? ⟨w.heap.size + 1, 1, none⟩ = some (.int .i64 a2)) _ := ⟨f0, l0, l1'⟩
        refine HT.take' (i := 0) (v := ?_) rfl (by kernel_rfl) (by decide) (by kernel_rfl) (by kernel_rfl) (fun _ _ _ h => h) (by rfl) (fun w' hS => ?_) hS0 ?_
        rotate_left
        focus
          obtain ⟨k0, k1, k2⟩ := hS
          go_simp
          try with_reducible rfl
          done
        simp only [Act.put, List.setIfInBounds_toArray, List.set_cons_zero, List.set_cons_succ]
        refine HT.take' (i := 2) (v := ?_) rfl (by kernel_rfl) (by decide) (by kernel_rfl) (by kernel_rfl) (fun _ _ _ h => h) (by rfl) (fun w' hS => ?_) hS0 ?_
        rotate_left
        focus
          obtain ⟨k0, k1, k2⟩ := hS
          go_simp
          try with_reducible rfl
          done
        simp only [Act.put, List.setIfInBounds_toArray, List.set_cons_zero, List.set_cons_succ]
        refine HT.take' (i := 3) (v := ?_) rfl (by kernel_rfl) (by decide) (by kernel_rfl) (by kernel_rfl) (fun _ _ _ h => h) (by rfl) (fun w' hS => ?_) hS0 ?_
        rotate_left
        focus
          obtain ⟨k0, k1, k2⟩ := hS
          go_simp
          try with_reducible rfl
          done
        simp only [Act.put, List.setIfInBounds_toArray, List.set_cons_zero, List.set_cons_succ]
        refine HT.one' (i := 1) rfl (by decide) (by kernel_rfl) (fun K hK => ?_)
        go_simp
        refine (xsOf_any f _ _ (HCp.out.rf.keep (by go_grown)) (by omega)).mono ?_
        rintro e w4 ⟨r4, rfl, os4, k4⟩
        have hX4 : Below W.heap.size W w4 := nextX (by go_grown) k4
        go_wp2_with fail
        have hS1 : (fun w' : World => w'.cell? ⟨w.heap.size, 0, none⟩ = some (.slice A f.length c) ∧ w'.cell? ⟨w.heap.size + 1, 0, none⟩ = some (.int .i64 a1) ∧ w'.cell? ⟨w.heap.size + 1, 1, none⟩ = some (.int .i64 a2)) _ := ⟨cellB hX4 f0, cellB hX4 l0, cellB hX4 l1'⟩
        refine hK _ _ hS1 ?_
        clear hK
        try simp only [Act.put, List.setIfInBounds_toArray, List.set_cons_zero, List.set_cons_succ]
        have HO4 := Lib.hid (os4.low (b := w3.heap.size + 1) (by go_size))
        have HCp4 := Lib.hid (HCp.out.keep hX4)
        have HSc4 := Lib.hid (slotB hX4 HSc.out)
        have zx4 := hX4.size
        have hBW4 := nextX hBW hX4
        clear os4 k4
        refine HT.one' (i := 4) rfl (by decide) (by kernel_rfl) (fun K hK => ?_)
        go_simp
        refine (cBefore_is f _ a1 a2 false w3.heap.size _ (HCp4.out.rf.keep (by go_grown)) HM.out (HOf.out _ zw) HOa.out (slotB (by go_grown) HSc4.out)).mono ?_
        rintro e w5 ⟨r5, rfl, os5, s5, k5⟩
        have hX5 : But w3.heap.size w4 w5 := (But.of_below (by go_grown : Below w4.heap.size w4 _) (Nat.le_refl _)).trans k5
        go_wp2_with fail
        have hS2 : (fun w' : World => w'.cell? ⟨w.heap.size, 0, none⟩ = some (.slice A f.length c) ∧ w'.cell? ⟨w.heap.size + 1, 0, none⟩ = some (.int .i64 a1) ∧ w'.cell? ⟨w.heap.size + 1, 1, none⟩ = some (.int .i64 a2)) _ := ⟨cellU hX5 (by omega) (cellB hX4 f0), cellU hX5 (by omega) (cellB hX4 l0), cellU hX5 (by omega) (cellB hX4 l1')⟩
        refine hK _ _ hS2 ?_
        clear hK
        try simp only [Act.put, List.setIfInBounds_toArray, List.set_cons_zero, List.set_cons_succ]
        refine HT.done (by kernel_rfl) ?_
        simp only [List.drop_succ_cons, List.drop_zero]
        have HO5 := Lib.hid (HO4.out.keepU hX5 (HO4.out.ne_lowK (Nat.lt_succ_self _)))
        have HR5 := Lib.hid os5.read
        have HS5 := Lib.hid s5
        have HCp5 := Lib.hid (HCp4.out.keepU hX5 (by omega) (by omega) (by omega) (HOf.out _ zw))
        have hB5 : Below w.heap.size w w5 := But.below hBW4 hX5 zw (by omega)
        have z5 : w4.heap.size ≤ w5.heap.size := hX5.size
        clear hS0 hS1 hS2 os5 s5 k5 f0 l0 l1' HO4 HCp4 HSc4 HSc HCp
        go_wp2_with (at_builtin; refine append_rd _ rfl (.tmp 26) (.tmp 29) rfl (w3.heap.size + 1) _ _ (f.map (·.1)) (setQ (befL (a1, a2) f f.length)) rfl ?own7 rfl ?read7 ?len7 ?base7 ?_)
        case own7 => exact HO5.out.keep (by go_grown)
        case read7 => exact HR5.out.keep (by go_grown)
        case len7 => rw [List.length_map]; omega
        case base7 => go_size
        intro v7 w7 h1 h2
        have hX7 : Below (w3.heap.size + 1) w5 w7 := Below.trans (by go_grown) h2
        have HO7 := Lib.hid h1
        have HS7 := Lib.hid (slot_below hX7 (Nat.lt_succ_self _) HS5.out)
        have HCp7 := Lib.hid (HCp5.out.keepB (hX7.mono (Nat.le_succ _)) z0 z1 z2 (HOf.out _ zw))
        have hB7 : Below w.heap.size w w7 := Below.trans hB5 (hX7.mono (by omega))
        have z7 : w5.heap.size ≤ w7.heap.size := hX7.size
        have f7 := HCp7.out.cf
        have h70 := HCp7.out.h0
        have h71 := HCp7.out.h1
        simp only at h70 h71
        clear h1 h2 hX7 HO5 HR5 HS5 HCp5
        go_wp2_with fail
        refine (cBefore_is f _ b1 b2 _ w3.heap.size _ (HCp7.out.rf.keep (by go_grown)) HM.out (HOf.out _ zw) HOb.out (slotB (by go_grown) HS7.out)).mono ?_
        rintro e w8 ⟨r8, rfl, os8, s8, k8⟩
        have hX8 : But w3.heap.size w7 w8 := (But.of_below (by go_grown : Below w7.heap.size w7 _) (Nat.le_refl _)).trans k8
        have HO8 := Lib.hid (HO7.out.keepU hX8 (HO7.out.ne_lowK (Nat.lt_succ_self _)))
        have HR8 := Lib.hid os8.read
        have HS8 := Lib.hid s8
        have HCp8 := Lib.hid (HCp7.out.keepU hX8 (by omega) (by omega) (by omega) (HOf.out _ zw))
        have hB8 : Below w.heap.size w w8 := But.below hB7 hX8 zw (by omega)
        have z8 : w7.heap.size ≤ w8.heap.size := hX8.size
        clear os8 s8 k8 hX8 f7 h70 h71 HO7 HS7 HCp7
        go_wp2_with (at_builtin; refine append_rd _ rfl (.tmp 31) (.tmp 34) rfl (w3.heap.size + 1) _ _ ((f.map (·.1)) ++ (setQ (befL (a1, a2) f f.length))) (setQ (befL (b1, b2) f f.length)) rfl ?own9 rfl ?read9 ?len9 ?base9 ?_)
        case own9 => exact HO8.out.keep (by go_grown)
        case read9 => exact HR8.out.keep (by go_grown)
        case len9 => simp only [List.length_append, List.length_map]; omega
        case base9 => go_size
        intro v9 w9 h1 h2
        have hX9 : Below (w3.heap.size + 1) w8 w9 := Below.trans (by go_grown) h2
        have ho9 : OwQ (w3.heap.size + 1) 31 w9 v9 (cutL f [(a1, a2), (b1, b2)] 2) := by rw [cut2, List.append_assoc]; exact h1
        have hs9 := slot_below hX9 (Nat.lt_succ_self _) HS8.out
        have hc9 := HCp8.out.keepB (hX9.mono (Nat.le_succ _)) z0 z1 z2 (HOf.out _ zw)
        have hB9 : Below w.heap.size w w9 := Below.trans hB8 (hX9.mono (by omega))
        have z9 : w8.heap.size ≤ w9.heap.size := hX9.size
        have HPt := Lib.hid (ptsClamp_is f (a1, a2) (b1, b2) _ v9 (.slice A f.length c) _ w3.heap.size w.heap.size (w.heap.size + 1) (w.heap.size + 2) w9 ho9 HUn.out.ok HUn.out ⟨hpc, by omega⟩ hs9 hc9 z0 z1 z2 (HOf.out _ zw) HM.out HUa.out HUb.out)
        clear h1 h2 hX9 HO8 HR8 HS8 HCp8 ho9 hs9 hc9
        go_wp2_with fail
        refine (HPt.out).mono ?_
        rintro e w10 ⟨r10, rfl, os10, sc10, hb10⟩
        have hB10 : Below w.heap.size w w10 := Below.trans hB9 (hb10.mono zw)
        have hz10 : w3.heap.size < w10.heap.size := lt_of_cell sc10.1
        have HR10 := Lib.hid (show RdP w10 r10 (clampL f (a1, a2) (b1, b2)) from os10.read)
        have HCc := Lib.hid sc10.1
        have HB10 := Lib.hid hB10
        clear os10 sc10 hb10 hB10 HPt
        go_wp2_with fail
        refine (finish_is (clampL f (a1, a2) (b1, b2)) _ _ m t w3.heap.size HFin.out HJ.out _ HCc.out HR10.out).mono ?_
        rintro e w11 ⟨r11, rfl, ow11, hb11⟩
        have HO11 := Lib.hid (ow11.low (b := w.heap.size) (by omega))
        have hB11 := nextX HB10.out hb11
        clear ow11 hb11
        go_wp2_with fail
        go_ret2
        exact ⟨_, rfl, HO11.out, hB11⟩
      · have HLs := Lib.hid hs
        obtain ⟨rfl, rfl⟩ := clampQ_no HL.out (show clampAsk f (a1, a2) (b1, b2) = false by unfold clampAsk; rw [hs]; simp)
        clear hm hu ua ub hs
        go_enter Tryz.func31, Tryz.ntmps31
        go_wp2_with fail
        refine (isMap_is f _ true _ (HF.out.keep (by go_grown)) hn HM.out).mono ?_
        rintro e w1 ⟨rfl, hb⟩
        have hX : Below w.heap.size w w1 := nextX (by go_grown) hb
        have b00 : w1.cell? ⟨w.heap.size, 0, none⟩ = some (.slice A f.length c) := cellB hb (by simp [go_sem])
        have b10 : w1.cell? ⟨w.heap.size + 1, 0, none⟩ = some (.int .i64 a1) := cellB hb (by simp [go_sem])
        have b11 : w1.cell? ⟨w.heap.size + 1, 1, none⟩ = some (.int .i64 a2) := cellB hb (by simp [go_sem])
        have b20 : w1.cell? ⟨w.heap.size + 2, 0, none⟩ = some (.int .i64 b1) := cellB hb (by simp [go_sem])
        have b21 : w1.cell? ⟨w.heap.size + 2, 1, none⟩ = some (.int .i64 b2) := cellB hb (by simp [go_sem])
        have zb00 := lt_of_cell b00
        have zb10 := lt_of_cell b10
        have zb20 := lt_of_cell b20
        have hB : Below w.heap.size w w1 := hX
        clear hb hX
        go_wp2_with fail
        refine (areUnits_is [(a1, a2), (b1, b2)] _ true _ (RdQ.two (by simp) (by simp [go_sem]) (by simp [go_sem]) (by simp [go_sem]) (by simp [go_sem])) (by simp only [List.all_cons, List.all_nil, Bool.and_true]; exact HU.out)).mono ?_
        rintro e w2 ⟨rfl, hb⟩
        have hX : Below w1.heap.size w1 w2 := nextX (by go_grown) hb
        replace b00 := cellB hX b00
        replace b10 := cellB hX b10
        replace b11 := cellB hX b11
        replace b20 := cellB hX b20
        replace b21 := cellB hX b21
        have zb00 := Nat.lt_of_lt_of_le zb00 hX.size
        have zb10 := Nat.lt_of_lt_of_le zb10 hX.size
        have zb20 := Nat.lt_of_lt_of_le zb20 hX.size
        replace hB := nextW hB hX
        clear hb hX
        go_wp2_with fail
        refine (less_any b1 b2 a1 a2 SB.out.1 SB.out.2 SA.out.1 SA.out.2 _).mono ?_
        rintro e w3 ⟨he, hb⟩
        rw [HLs.out] at he
        subst he
        have hX : Below w2.heap.size w2 w3 := nextX (by go_grown) hb
        replace b00 := cellB hX b00
        replace b10 := cellB hX b10
        replace b11 := cellB hX b11
        replace b20 := cellB hX b20
        replace b21 := cellB hX b21
        have zb00 := Nat.lt_of_lt_of_le zb00 hX.size
        have zb10 := Nat.lt_of_lt_of_le zb10 hX.size
        have zb20 := Nat.lt_of_lt_of_le zb20 hX.size
        replace hB := nextW hB hX
        clear hb hX
        go_wp2_with fail
        go_ret2
        exact ⟨_, rfl, World.ownsRow_nil _ _ _ _, hB⟩

end Go.Proofs.YtkeajfgcjmhmiaaGreat
