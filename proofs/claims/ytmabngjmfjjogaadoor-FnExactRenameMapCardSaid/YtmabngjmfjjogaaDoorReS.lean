/- RenameMap of the reference. -/
import Derived.Test.YtmabngjmfjjogaaDoorRen
namespace Go.Proofs.YtmabngjmfjjogaaDoor
open Go.RowKit

set_option maxRecDepth 100000 in
set_option maxHeartbeats 6400000 in
theorem sRenameMap_is (ns : List Nm) (v : Value) (old name : List UInt8) (m : List Nm) (t : Bool) (hl : renQ ns old name = (m, t)) (w : World) (hv : RdE w v ns) (hnm : NmL ns) (hn : ns.length ≤ 1048576) (hm : ∀ n ∈ ns, n.2.length ≤ 1048576) (hnl : name.length ≤ 1048576) :
    Calls Tryd.prog 38 #[v, str old, str name] w (RetNB w m t) := by
  have HV := Lib.hid hv
  have HL := Lib.hid hl
  obtain ⟨A, c, rfl, hlc, hmx, hcell⟩ := hv
  unfold maxLen at hmx
  have HC := Lib.hid hcell
  clear hcell hl
  rcases hen : envB ns with _ | _
  · have HE := Lib.hid hen
    obtain ⟨rfl, rfl⟩ := renQ_no HL.out (renB_fgt (fgtB_env hen))
    clear hen
    go_enter Tryd.func38, Tryd.ntmps38
    go_wp2_with fail
    refine (laGood_is ns _ false _ (HV.out.keep (by go_grown)) hnm hn hm HE.out).mono ?_
    rintro e w1 ⟨rfl, h1⟩
    have hB : Below w.heap.size w w1 := nextX (by go_grown) h1
    clear h1
    go_wp2_with fail
    go_ret2
    exact ⟨_, rfl, OwN.nil _ _, hB⟩
  · have HE := Lib.hid hen
    have HSR := Lib.hid (env_srt hen)
    have hms := maps_of hen
    have hn8 := (envB_yes hen).1
    have HMW := Lib.hid (show MapsE (woQ ns old) from fun x hx => hms x (wo_mem hx).1)
    have HNL := Lib.hid (renL_names (old := old) hnm hnl)
    have HML := Lib.hid (renL_maps (old := old) (name := name) hm)
    have hgd : ∀ (W : World) (a b : Operand), (eqGuard .neq 9 a b (str old) (str name)).run Tryd.prog W = .ok () W := fun W a b => by unfold str; go_simp
    have hq : ∀ W, (binOp .neq 9 (str old) (str name)).run Tryd.prog W = .ok (.bool (decide (old ≠ name))) W := fun W => neq_str W old name
    clear hen
    go_enter Tryd.func38, Tryd.ntmps38
    go_wp2_with fail
    refine (laGood_is ns _ true _ (HV.out.keep (by go_grown)) hnm hn hm HE.out).mono ?_
    rintro e w1 ⟨rfl, h1⟩
    have hB : Below w.heap.size w w1 := nextX (by go_grown) h1
    clear h1
    go_wp2_with fail
    refine (laFind_is ns _ old _ (HV.out.keep (nextX hB (by go_grown))) hn).mono ?_
    rintro e w2 ⟨x, rfl, hx, h1⟩
    replace hB := nextX hB (nextX (by go_grown) h1)
    clear h1
    rcases hx with ⟨rfl, hno⟩ | ⟨i0, n0, rfl, hi0, he0, -⟩
    · obtain ⟨rfl, rfl⟩ := renQ_no HL.out (renB_fgt (fgtB_none hno))
      clear hno
      go_wp2_with fail
      go_ret2
      exact ⟨_, rfl, OwN.nil _ _, hB⟩
    · have HI := Lib.hid (And.intro hi0 he0)
      have HFB := Lib.hid (fgtB_some HE.out (List.mem_of_getElem? hi0) he0)
      have b0 : ¬ (i0 : Int) < 0 := by omega
      have b0' : decide ((i0 : Int) < 0) = false := decide_eq_false b0
      clear hi0 he0
      by_cases hon : old = name
      · have HNO := Lib.hid (show ∀ x ∈ woQ ns old, x.1 ≠ name from fun x hx => by rw [← hon]; exact (wo_mem hx).2)
        have hd : decide (old ≠ name) = false := by simpa using hon
        rw [hd] at hq
        clear hd hon
        go_wp2_with fail
        refine (laFind_is ns _ old _ (HV.out.keep (nextX hB (by go_grown))) hn).mono ?_
        rintro e w3 ⟨x, rfl, hx, h1⟩
        replace hB := nextX hB (nextX (by go_grown) h1)
        clear h1
        rcases hx with ⟨rfl, hno⟩ | ⟨i, n, rfl, hi, he, -⟩
        · exact absurd HI.out.2 (hno _ (List.mem_of_getElem? HI.out.1))
        · obtain ⟨hlen, hev⟩ := renL_env HE.out hi he HNO.out
          have hwo := wo_erase HSR.out hi he
          have hil := (List.getElem?_eq_some_iff.1 hi).1
          have hsw : SrtE (woQ ns old) := by rw [hwo]; exact HSR.out.erase i
          have hmap := mapOf_eq HSR.out hi he
          have HSW := Lib.hid hsw
          have HRL := Lib.hid (show renL ns old name = insL (woQ ns old) (posOf (woQ ns old) name) (name, n.2) by unfold renL; rw [hmap])
          have HLN := Lib.hid hlen
          have HEV := Lib.hid hev
          have hwl : (woQ ns old).length ≤ ns.length := List.length_filter_le _ _
          obtain ⟨g, o, rfl, hg, hcc⟩ := HC.out (fun h => by rw [h] at hil; exact absurd hil (Nat.not_lt_zero _))
          obtain ⟨c0, mv, c1, hp⟩ := hcc i n hi
          obtain ⟨A1, k1, rfl, -, -, -⟩ := id hp
          have HM := Lib.hid (hms n (List.mem_of_getElem? hi))
          have HP := Lib.hid hp
          replace c0 := cellB hB c0
          replace c1 := cellB hB c1
          unfold str at c0
          have d0 : (0 : Int) ≤ (i : Int) := by omega
          have d1 : (i : Int) < (ns.length : Int) := by omega
          clear hi he hlen hev hwo hsw hmap hp hcc HI
          go_wp2_with fail
          refine (laOwn_is n _ _ (HP.out.keep (nextX hB (by go_grown))) HM.out).mono ?_
          rintro e w4 ⟨Ar, cr, rfl, ho, h1⟩
          have hz3 := hB.size
          replace hB := nextX hB (nextX (by go_grown) h1)
          have HR := Lib.hid (ho.low (b := w.heap.size) (by go_size))
          clear ho h1 c0 c1
          go_wp2_with fail
          go_name_world W0 hW
          have e0 : W0.cell? ⟨w4.heap.size, 0, none⟩ = some (.string ⟨n.1.toArray⟩) := by rw [← hW]; simp [go_sem]
          have e1 : W0.cell? ⟨w4.heap.size, 1, none⟩ = some (.slice Ar n.2.length cr) := by rw [← hW]; simp [go_sem]
          have hB0 : Below w4.heap.size w4 W0 := by rw [← hW]; go_grown
          have hz0 := lt_of_cell e0
          have hBW := nextW hB hB0
          have HR0 := Lib.hid (HR.out.keep hB0)
          clear hW
          unfold str
          refine wp_region_HT (S := (fun w' : World => w'.cell? ⟨w4.heap.size, 0, none⟩ = some (.string ⟨n.1.toArray⟩) ∧ w'.cell? ⟨w4.heap.size, 1, none⟩ = some (.slice Ar n.2.length cr))) 8 (by kernel_rfl) (by kernel_rfl) ?_
          have hS0 : (fun w' : World => w'.cell? ⟨w4.heap.size, 0, none⟩ = some (.string ⟨n.1.toArray⟩) ∧ w'.cell? ⟨w4.heap.size, 1, none⟩ = some (.slice Ar n.2.length cr)) _ := ⟨e0, e1⟩
          refine HT.take' (i := 0) (v := ?_) rfl (by kernel_rfl) (by decide) (by kernel_rfl) (by kernel_rfl) (fun _ _ _ h => h) (by rfl) (fun w' hS => ?_) hS0 ?_
          rotate_left
          focus
            obtain ⟨k0, k1⟩ := hS
            go_simp
            try with_reducible rfl
            done
          simp only [Act.put, List.setIfInBounds_toArray, List.set_cons_zero, List.set_cons_succ]
          refine HT.take' (i := 1) (v := ?_) rfl (by kernel_rfl) (by decide) (by kernel_rfl) (by kernel_rfl) (fun _ _ _ h => h) (by rfl) (fun w' hS => ?_) hS0 ?_
          rotate_left
          focus
            obtain ⟨k0, k1⟩ := hS
            go_simp
            try with_reducible rfl
            done
          simp only [Act.put, List.setIfInBounds_toArray, List.set_cons_zero, List.set_cons_succ]
          refine HT.take' (i := 3) (v := ?_) rfl (by kernel_rfl) (by decide) (by kernel_rfl) (by kernel_rfl) (fun _ _ _ h => h) (by rfl) (fun w' hS => ?_) hS0 ?_
          rotate_left
          focus
            obtain ⟨k0, k1⟩ := hS
            go_simp
            try with_reducible rfl
            done
          simp only [Act.put, List.setIfInBounds_toArray, List.set_cons_zero, List.set_cons_succ]
          refine HT.take' (i := 4) (v := ?_) rfl (by kernel_rfl) (by decide) (by kernel_rfl) (by kernel_rfl) (fun _ _ _ h => h) (by rfl) (fun w' hS => ?_) hS0 ?_
          rotate_left
          focus
            obtain ⟨k0, k1⟩ := hS
            go_simp
            try with_reducible rfl
            done
          simp only [Act.put, List.setIfInBounds_toArray, List.set_cons_zero, List.set_cons_succ]
          refine HT.take' (i := 5) (v := ?_) rfl (by kernel_rfl) (by decide) (by kernel_rfl) (by kernel_rfl) (fun _ _ _ h => h) (by rfl) (fun w' hS => ?_) hS0 ?_
          rotate_left
          focus
            obtain ⟨k0, k1⟩ := hS
            go_simp
            try with_reducible rfl
            done
          simp only [Act.put, List.setIfInBounds_toArray, List.set_cons_zero, List.set_cons_succ]
          refine HT.take' (i := 6) (v := ?_) rfl (by kernel_rfl) (by decide) (by kernel_rfl) (by kernel_rfl) (fun _ _ _ h => h) (by rfl) (fun w' hS => ?_) hS0 ?_
          rotate_left
          focus
            obtain ⟨k0, k1⟩ := hS
            go_simp
            try with_reducible rfl
            done
          simp only [Act.put, List.setIfInBounds_toArray, List.set_cons_zero, List.set_cons_succ]
          refine HT.one' (i := 2) rfl (by decide) (by kernel_rfl) (fun K hK => ?_)
          go_simp
          refine (laWithout_is ns _ old _ (HV.out.keep (nextX hBW (by go_grown))) (by omega) hms).mono ?_
          rintro e w5 ⟨r, rfl, ho, h5⟩
          have hX5 : Below W0.heap.size W0 w5 := nextX (by go_grown) h5
          have hz5 := hX5.size
          have hzW := hBW.size
          have hz6 : w.heap.size ≤ w5.heap.size := Nat.le_trans hzW hz5
          have HO5 := Lib.hid ho.read
          clear ho h5
          go_wp2_with fail
          have hS1 : (fun w' : World => w'.cell? ⟨w4.heap.size, 0, none⟩ = some (.string ⟨n.1.toArray⟩) ∧ w'.cell? ⟨w4.heap.size, 1, none⟩ = some (.slice Ar n.2.length cr)) _ := ⟨cellB hX5 e0, cellB hX5 e1⟩
          refine hK _ _ hS1 ?_
          clear hK
          try simp only [Act.put, List.setIfInBounds_toArray, List.set_cons_zero, List.set_cons_succ]
          refine HT.one' (i := 7) rfl (by decide) (by kernel_rfl) (fun K hK => ?_)
          go_simp
          refine (laWith_is (woQ ns old) r (name, n.2) (posOf (woQ ns old) name) w.heap.size (.slice Ar n.2.length cr) _ (HO5.out.keep (by go_grown)) (by omega) HMW.out (HR0.out.keep (nextX hX5 (by go_grown))) (by go_size) HNO.out (posOf_le _ _) posOf_lt (posOf_ge HSW.out)).mono ?_
          rintro e w6 ⟨r6, rfl, ho6, h6⟩
          have hX6 : Below W0.heap.size W0 w6 := nextX (nextX hX5 (by go_grown)) h6
          rw [← HRL.out] at ho6
          have HO6 := Lib.hid ho6
          clear ho6 h6
          go_wp2_with fail
          have hS2 : (fun w' : World => w'.cell? ⟨w4.heap.size, 0, none⟩ = some (.string ⟨n.1.toArray⟩) ∧ w'.cell? ⟨w4.heap.size, 1, none⟩ = some (.slice Ar n.2.length cr)) _ := ⟨cellB hX6 e0, cellB hX6 e1⟩
          refine hK _ _ hS2 ?_
          clear hK
          try simp only [Act.put, List.setIfInBounds_toArray, List.set_cons_zero, List.set_cons_succ]
          refine HT.done (by kernel_rfl) ?_
          simp only [List.drop_succ_cons, List.drop_zero]
          have hB6 := nextW hBW hX6
          clear hS0 hS1 hS2 e0 e1 hX5 hX6 hB0 hBW hB
          rcases hN : nameB name with _ | _
          · obtain ⟨rfl, rfl⟩ := renQ_no HL.out (renB_word hN)
            have HEN := Lib.hid (HEV.out.trans hN)
            clear hN
            go_wp2_with fail
            refine (laGood_is (renL ns old name) r6 false _ (HO6.out.read.keep (by go_grown)) HNL.out (Nat.le_trans HLN.out (by omega)) HML.out HEN.out).mono ?_
            rintro e w7 ⟨rfl, h1⟩
            have hB7 := nextX hB6 (nextX (by go_grown) h1)
            clear h1
            go_wp2_with fail
            go_ret2
            exact ⟨_, rfl, OwN.nil _ _, hB7⟩
          · obtain ⟨rfl, rfl⟩ := renQ_yes HL.out (renB_all HFB.out HNO.out hN)
            have HEN := Lib.hid (HEV.out.trans hN)
            clear hN
            go_wp2_with fail
            refine (laGood_is (renL ns old name) r6 true _ (HO6.out.read.keep (by go_grown)) HNL.out (Nat.le_trans HLN.out (by omega)) HML.out HEN.out).mono ?_
            rintro e w7 ⟨rfl, h1⟩
            have hX7 : Below w6.heap.size w6 w7 := nextX (by go_grown) h1
            have hB7 := nextW hB6 hX7
            have HO7 := Lib.hid (HO6.out.keep hX7)
            clear h1
            go_wp2_with fail
            go_ret2
            exact ⟨_, rfl, HO7.out, hB7⟩
      · have hd : decide (old ≠ name) = true := by simpa using hon
        rw [hd] at hq
        have HON := Lib.hid hon
        clear hd hon
        go_wp2_with fail
        refine (laFind_is ns _ name _ (HV.out.keep (nextX hB (by go_grown))) hn).mono ?_
        rintro e w2' ⟨x, rfl, hx, h1⟩
        replace hB := nextX hB (nextX (by go_grown) h1)
        clear h1
        rcases hx with ⟨rfl, hno⟩ | ⟨j, nj, rfl, hj, hej, -⟩
        · have HNO := Lib.hid (show ∀ x ∈ woQ ns old, x.1 ≠ name from fun x hx => hno x (wo_mem hx).1)
          clear hno
          go_wp2_with fail
          refine (laFind_is ns _ old _ (HV.out.keep (nextX hB (by go_grown))) hn).mono ?_
          rintro e w3 ⟨x, rfl, hx, h1⟩
          replace hB := nextX hB (nextX (by go_grown) h1)
          clear h1
          rcases hx with ⟨rfl, hno⟩ | ⟨i, n, rfl, hi, he, -⟩
          · exact absurd HI.out.2 (hno _ (List.mem_of_getElem? HI.out.1))
          · obtain ⟨hlen, hev⟩ := renL_env HE.out hi he HNO.out
            have hwo := wo_erase HSR.out hi he
            have hil := (List.getElem?_eq_some_iff.1 hi).1
            have hsw : SrtE (woQ ns old) := by rw [hwo]; exact HSR.out.erase i
            have hmap := mapOf_eq HSR.out hi he
            have HSW := Lib.hid hsw
            have HRL := Lib.hid (show renL ns old name = insL (woQ ns old) (posOf (woQ ns old) name) (name, n.2) by unfold renL; rw [hmap])
            have HLN := Lib.hid hlen
            have HEV := Lib.hid hev
            have hwl : (woQ ns old).length ≤ ns.length := List.length_filter_le _ _
            obtain ⟨g, o, rfl, hg, hcc⟩ := HC.out (fun h => by rw [h] at hil; exact absurd hil (Nat.not_lt_zero _))
            obtain ⟨c0, mv, c1, hp⟩ := hcc i n hi
            obtain ⟨A1, k1, rfl, -, -, -⟩ := id hp
            have HM := Lib.hid (hms n (List.mem_of_getElem? hi))
            have HP := Lib.hid hp
            replace c0 := cellB hB c0
            replace c1 := cellB hB c1
            unfold str at c0
            have d0 : (0 : Int) ≤ (i : Int) := by omega
            have d1 : (i : Int) < (ns.length : Int) := by omega
            clear hi he hlen hev hwo hsw hmap hp hcc HI
            go_wp2_with fail
            refine (laOwn_is n _ _ (HP.out.keep (nextX hB (by go_grown))) HM.out).mono ?_
            rintro e w4 ⟨Ar, cr, rfl, ho, h1⟩
            have hz3 := hB.size
            replace hB := nextX hB (nextX (by go_grown) h1)
            have HR := Lib.hid (ho.low (b := w.heap.size) (by go_size))
            clear ho h1 c0 c1
            go_wp2_with fail
            go_name_world W0 hW
            have e0 : W0.cell? ⟨w4.heap.size, 0, none⟩ = some (.string ⟨n.1.toArray⟩) := by rw [← hW]; simp [go_sem]
            have e1 : W0.cell? ⟨w4.heap.size, 1, none⟩ = some (.slice Ar n.2.length cr) := by rw [← hW]; simp [go_sem]
            have hB0 : Below w4.heap.size w4 W0 := by rw [← hW]; go_grown
            have hz0 := lt_of_cell e0
            have hBW := nextW hB hB0
            have HR0 := Lib.hid (HR.out.keep hB0)
            clear hW
            unfold str
            refine wp_region_HT (S := (fun w' : World => w'.cell? ⟨w4.heap.size, 0, none⟩ = some (.string ⟨n.1.toArray⟩) ∧ w'.cell? ⟨w4.heap.size, 1, none⟩ = some (.slice Ar n.2.length cr))) 8 (by kernel_rfl) (by kernel_rfl) ?_
            have hS0 : (fun w' : World => w'.cell? ⟨w4.heap.size, 0, none⟩ = some (.string ⟨n.1.toArray⟩) ∧ w'.cell? ⟨w4.heap.size, 1, none⟩ = some (.slice Ar n.2.length cr)) _ := ⟨e0, e1⟩
            refine HT.take' (i := 0) (v := ?_) rfl (by kernel_rfl) (by decide) (by kernel_rfl) (by kernel_rfl) (fun _ _ _ h => h) (by rfl) (fun w' hS => ?_) hS0 ?_
            rotate_left
            focus
              obtain ⟨k0, k1⟩ := hS
              go_simp
              try with_reducible rfl
              done
            simp only [Act.put, List.setIfInBounds_toArray, List.set_cons_zero, List.set_cons_succ]
            refine HT.take' (i := 1) (v := ?_) rfl (by kernel_rfl) (by decide) (by kernel_rfl) (by kernel_rfl) (fun _ _ _ h => h) (by rfl) (fun w' hS => ?_) hS0 ?_
            rotate_left
            focus
              obtain ⟨k0, k1⟩ := hS
              go_simp
              try with_reducible rfl
              done
            simp only [Act.put, List.setIfInBounds_toArray, List.set_cons_zero, List.set_cons_succ]
            refine HT.take' (i := 3) (v := ?_) rfl (by kernel_rfl) (by decide) (by kernel_rfl) (by kernel_rfl) (fun _ _ _ h => h) (by rfl) (fun w' hS => ?_) hS0 ?_
            rotate_left
            focus
              obtain ⟨k0, k1⟩ := hS
              go_simp
              try with_reducible rfl
              done
            simp only [Act.put, List.setIfInBounds_toArray, List.set_cons_zero, List.set_cons_succ]
            refine HT.take' (i := 4) (v := ?_) rfl (by kernel_rfl) (by decide) (by kernel_rfl) (by kernel_rfl) (fun _ _ _ h => h) (by rfl) (fun w' hS => ?_) hS0 ?_
            rotate_left
            focus
              obtain ⟨k0, k1⟩ := hS
              go_simp
              try with_reducible rfl
              done
            simp only [Act.put, List.setIfInBounds_toArray, List.set_cons_zero, List.set_cons_succ]
            refine HT.take' (i := 5) (v := ?_) rfl (by kernel_rfl) (by decide) (by kernel_rfl) (by kernel_rfl) (fun _ _ _ h => h) (by rfl) (fun w' hS => ?_) hS0 ?_
            rotate_left
            focus
              obtain ⟨k0, k1⟩ := hS
              go_simp
              try with_reducible rfl
              done
            simp only [Act.put, List.setIfInBounds_toArray, List.set_cons_zero, List.set_cons_succ]
            refine HT.take' (i := 6) (v := ?_) rfl (by kernel_rfl) (by decide) (by kernel_rfl) (by kernel_rfl) (fun _ _ _ h => h) (by rfl) (fun w' hS => ?_) hS0 ?_
            rotate_left
            focus
              obtain ⟨k0, k1⟩ := hS
              go_simp
              try with_reducible rfl
              done
            simp only [Act.put, List.setIfInBounds_toArray, List.set_cons_zero, List.set_cons_succ]
            refine HT.one' (i := 2) rfl (by decide) (by kernel_rfl) (fun K hK => ?_)
            go_simp
            refine (laWithout_is ns _ old _ (HV.out.keep (nextX hBW (by go_grown))) (by omega) hms).mono ?_
            rintro e w5 ⟨r, rfl, ho, h5⟩
            have hX5 : Below W0.heap.size W0 w5 := nextX (by go_grown) h5
            have hz5 := hX5.size
            have hzW := hBW.size
            have hz6 : w.heap.size ≤ w5.heap.size := Nat.le_trans hzW hz5
            have HO5 := Lib.hid ho.read
            clear ho h5
            go_wp2_with fail
            have hS1 : (fun w' : World => w'.cell? ⟨w4.heap.size, 0, none⟩ = some (.string ⟨n.1.toArray⟩) ∧ w'.cell? ⟨w4.heap.size, 1, none⟩ = some (.slice Ar n.2.length cr)) _ := ⟨cellB hX5 e0, cellB hX5 e1⟩
            refine hK _ _ hS1 ?_
            clear hK
            try simp only [Act.put, List.setIfInBounds_toArray, List.set_cons_zero, List.set_cons_succ]
            refine HT.one' (i := 7) rfl (by decide) (by kernel_rfl) (fun K hK => ?_)
            go_simp
            refine (laWith_is (woQ ns old) r (name, n.2) (posOf (woQ ns old) name) w.heap.size (.slice Ar n.2.length cr) _ (HO5.out.keep (by go_grown)) (by omega) HMW.out (HR0.out.keep (nextX hX5 (by go_grown))) (by go_size) HNO.out (posOf_le _ _) posOf_lt (posOf_ge HSW.out)).mono ?_
            rintro e w6 ⟨r6, rfl, ho6, h6⟩
            have hX6 : Below W0.heap.size W0 w6 := nextX (nextX hX5 (by go_grown)) h6
            rw [← HRL.out] at ho6
            have HO6 := Lib.hid ho6
            clear ho6 h6
            go_wp2_with fail
            have hS2 : (fun w' : World => w'.cell? ⟨w4.heap.size, 0, none⟩ = some (.string ⟨n.1.toArray⟩) ∧ w'.cell? ⟨w4.heap.size, 1, none⟩ = some (.slice Ar n.2.length cr)) _ := ⟨cellB hX6 e0, cellB hX6 e1⟩
            refine hK _ _ hS2 ?_
            clear hK
            try simp only [Act.put, List.setIfInBounds_toArray, List.set_cons_zero, List.set_cons_succ]
            refine HT.done (by kernel_rfl) ?_
            simp only [List.drop_succ_cons, List.drop_zero]
            have hB6 := nextW hBW hX6
            clear hS0 hS1 hS2 e0 e1 hX5 hX6 hB0 hBW hB
            rcases hN : nameB name with _ | _
            · obtain ⟨rfl, rfl⟩ := renQ_no HL.out (renB_word hN)
              have HEN := Lib.hid (HEV.out.trans hN)
              clear hN
              go_wp2_with fail
              refine (laGood_is (renL ns old name) r6 false _ (HO6.out.read.keep (by go_grown)) HNL.out (Nat.le_trans HLN.out (by omega)) HML.out HEN.out).mono ?_
              rintro e w7 ⟨rfl, h1⟩
              have hB7 := nextX hB6 (nextX (by go_grown) h1)
              clear h1
              go_wp2_with fail
              go_ret2
              exact ⟨_, rfl, OwN.nil _ _, hB7⟩
            · obtain ⟨rfl, rfl⟩ := renQ_yes HL.out (renB_all HFB.out HNO.out hN)
              have HEN := Lib.hid (HEV.out.trans hN)
              clear hN
              go_wp2_with fail
              refine (laGood_is (renL ns old name) r6 true _ (HO6.out.read.keep (by go_grown)) HNL.out (Nat.le_trans HLN.out (by omega)) HML.out HEN.out).mono ?_
              rintro e w7 ⟨rfl, h1⟩
              have hX7 : Below w6.heap.size w6 w7 := nextX (by go_grown) h1
              have hB7 := nextW hB6 hX7
              have HO7 := Lib.hid (HO6.out.keep hX7)
              clear h1
              go_wp2_with fail
              go_ret2
              exact ⟨_, rfl, HO7.out, hB7⟩
        · obtain ⟨rfl, rfl⟩ := renQ_no HL.out (renB_known (mem_wo (List.mem_of_getElem? hj) (fun hh => HON.out (hh.symm.trans hej))) hej)
          have b1 : (0 : Int) ≤ (j : Int) := by omega
          have b1' : decide ((0 : Int) ≤ (j : Int)) = true := decide_eq_true b1
          clear hj hej
          go_wp2_with fail
          go_ret2
          exact ⟨_, rfl, OwN.nil _ _, hB⟩

end Go.Proofs.YtmabngjmfjjogaaDoor
