/- Environments: isEnvironment of the program, laGood of the reference; IsEnvironment of both. -/
import Derived.Test.YtmabngjmfjjogaaDoorNme
import Derived.Test.YtmabngjmfjjogaaDoorNam
import Derived.Lib.MinMaxS
import Derived.Laws.Cover1
namespace Go.Proofs.YtmabngjmfjjogaaDoor
open Go.RowKit

/-- a is not before b. -/
def geS (a b : List UInt8) : Bool := !decide (a < b)
theorem run_geS (W : World) (a b : List UInt8) : (binOp .geq 9 (str a) (str b)).run Tryd.prog W = .ok (.bool (geS a b)) W := by
  unfold str geS
  rw [binOp_string_geq]
  simp only [Proofs.bytesLess_eq, Lib.toList_data]
  rfl
/-- The name and the map at a place are as they must be. -/
def okE (ns : List Nm) (i : Nat) : Bool := match ns[i]? with
  | some n => nameB n.1 && (okMap n.2 && !(decide (0 < i) && geS (ns.getD (i - 1) ([], [])).1 n.1))
  | none => true
def envB (ns : List Nm) : Bool := (List.range ns.length).all (okE ns) && decide (ns.length ≤ 8)
theorem okE_at {ns : List Nm} {i : Nat} {n : Nm} (h : ns[i]? = some n) : okE ns i = (nameB n.1 && (okMap n.2 && !(decide (0 < i) && geS (ns.getD (i - 1) ([], [])).1 n.1))) := by unfold okE; rw [h]
theorem okE_succ {ns : List Nm} {i : Nat} {n m : Nm} (h : ns[i + 1]? = some n) (hm : ns[i]? = some m) : okE ns (i + 1) = (nameB n.1 && (okMap n.2 && !geS m.1 n.1)) := by
  rw [okE_at h, Nat.add_sub_cancel, List.getD_eq_getElem?_getD, hm]
  simp
theorem okE_zero {ns : List Nm} {n : Nm} (h : ns[0]? = some n) : okE ns 0 = (nameB n.1 && okMap n.2) := by
  rw [okE_at h]; simp
theorem envB_no {ns : List Nm} {i : Nat} (hi : i < ns.length) (h : okE ns i = false) : envB ns = false := by
  unfold envB
  have : (List.range ns.length).all (okE ns) = false := by
    rw [List.all_eq_false]
    exact ⟨i, List.mem_range.2 hi, by rw [h]; simp⟩
  rw [this]; rfl
theorem envB_all {ns : List Nm} (h : ∀ j, j < ns.length → okE ns j = true) : envB ns = decide (ns.length ≤ 8) := by
  unfold envB
  have : (List.range ns.length).all (okE ns) = true := by
    rw [List.all_eq_true]
    intro j hj
    exact h j (List.mem_range.1 hj)
  rw [this]; rfl
def RelEn (ns : List Nm) (w : World) (i : Value) (wr : World) : Prop := ∃ k : Nat, k ≤ ns.length ∧ i = .int .i64 k ∧ (∀ j, j < k → okE ns j = true) ∧ Below w.heap.size w wr

set_option maxRecDepth 100000 in
set_option maxHeartbeats 3200000 in
theorem isEnvironment_is (ns : List Nm) (v : Value) (t : Bool) (w : World) (hC : CutW w) (hv : RdE w v ns) (hnm : NmL ns) (hn : ns.length ≤ 1048576) (hm : ∀ n ∈ ns, n.2.length ≤ 1048576) (ht : envB ns = t) :
    Calls Tryd.prog 71 #[v] w fun e w' => e = .returned (.bool t) ∧ Below w.heap.size w w' := by
  obtain ⟨A, c, rfl, hl, hmx, hcell⟩ := hv
  unfold maxLen at hmx
  have HC := Lib.hid hcell
  have HT := Lib.hid ht
  clear hcell ht
  go_enter Tryd.func71, Tryd.ntmps71
  go_wp2_with fail
  go_loopw [7] (fun i wr => RelEn ns w i wr) (fun i _ => ns.length - (intOf i).toNat)
  case atStart => exact ⟨0, Nat.zero_le _, rfl, fun j hj => absurd hj (Nat.not_lt_zero _), by go_grown⟩
  case round =>
    obtain ⟨k, hk, rfl, hal, hb⟩ := hrel
    have HA := Lib.hid hal
    clear hal
    by_cases hlt : k < ns.length
    · obtain ⟨g, o, rfl, hg, hc⟩ := HC.out (by rintro rfl; simp at hlt)
      have hx := List.getElem?_eq_getElem hlt
      generalize ns[k] = n at *
      obtain ⟨c0, mv, c1, hp⟩ := hc k n hx
      have hnl := hnm n (List.mem_of_getElem? hx)
      have hpl := hm n (List.mem_of_getElem? hx)
      obtain ⟨A1, k1, rfl, -, -, -⟩ := id hp
      have HP := Lib.hid (hp.keep hb)
      have HX := Lib.hid hx
      replace c0 := cellB hb c0
      replace c1 := cellB hb c1
      unfold str at c0
      have b0 : (0 : Int) ≤ (k : Int) := by omega
      have b1 : (k : Int) < (ns.length : Int) := by omega
      have v1 : IntKind.i64.wrap ((k : Int) + 1) = (k : Int) + 1 := IntWalk.i64_in _ (by omega)
      have v2 : IntKind.i64.wrap (k : Int) = (k : Int) := IntWalk.i64_in _ (by omega)
      have HCC := Lib.hid hc
      clear hp hx hc HC
      have pre : ∀ W0, Below wr.heap.size wr W0 → Below wr.heap.size wr W0 := fun _ h => h
      rcases hN : nameB n.1 with _ | _
      · obtain rfl : false = t := by rw [← HT.out]; exact (envB_no hlt (by rw [okE_at HX.out, hN]; rfl)).symm
        have HN := Lib.hid hN
        clear hN HCC
        go_wp2_with fail
        go_name_world W0 hW
        have e0 : W0.cell? ⟨wr.heap.size, 0, none⟩ = some (str n.1) := by rw [← hW]; simp [go_sem, str]
        have e1 : W0.cell? ⟨wr.heap.size, 1, none⟩ = some (.slice A1 n.2.length k1) := by rw [← hW]; simp [go_sem]
        have hB0 : Below wr.heap.size wr W0 := by rw [← hW]; go_grown
        clear hW
        refine wp_region_below (by kernel_rfl) (by kernel_rfl) ?_
        iterate 25 (first
          | (refine stepS rfl ?_; simp only [Act.put, List.setIfInBounds_toArray, List.set_cons_zero, List.set_cons_succ])
          | (refine stepV (v := ?_) rfl (fun W hW => ?_) ?_
             rotate_left
             focus
               have qc0 := cellB hW.out e0
               have qc1 := cellB hW.out e1
               go_simp
               try with_reducible rfl
               done
             simp only [Act.put, List.setIfInBounds_toArray, List.set_cons_zero, List.set_cons_succ])
          | (refine stepC rfl (fun W hW => ?_) (fun W hW => callB hW (isMapName_is n.1 false HN.out W (hC.keep (nextW hb (nextX hB0 hW.out))) hnl)) ?_
             focus
               go_simp
               try with_reducible rfl
               done
             simp only [Act.put, List.setIfInBounds_toArray, List.set_cons_zero, List.set_cons_succ]))
        refine stepN ?_
        intro w1 hw1
        have hB := nextW hb (nextX hB0 hw1.out)
        clear hw1
        go_wp2_with fail
        go_ret
        exact ⟨rfl, hB⟩
      · have HN := Lib.hid hN
        clear hN
        rcases hM : okMap n.2 with _ | _
        · obtain rfl : false = t := by rw [← HT.out]; exact (envB_no hlt (by rw [okE_at HX.out, HN.out, hM]; rfl)).symm
          have HM := Lib.hid hM
          clear hM HCC
          go_wp2_with fail
          go_name_world W0 hW
          have e0 : W0.cell? ⟨wr.heap.size, 0, none⟩ = some (str n.1) := by rw [← hW]; simp [go_sem, str]
          have e1 : W0.cell? ⟨wr.heap.size, 1, none⟩ = some (.slice A1 n.2.length k1) := by rw [← hW]; simp [go_sem]
          have hB0 : Below wr.heap.size wr W0 := by rw [← hW]; go_grown
          clear hW
          refine wp_region_below (by kernel_rfl) (by kernel_rfl) ?_
          iterate 25 (first
            | (refine stepS rfl ?_; simp only [Act.put, List.setIfInBounds_toArray, List.set_cons_zero, List.set_cons_succ])
            | (refine stepV (v := ?_) rfl (fun W hW => ?_) ?_
               rotate_left
               focus
                 have qc0 := cellB hW.out e0
                 have qc1 := cellB hW.out e1
                 go_simp
                 try with_reducible rfl
                 done
               simp only [Act.put, List.setIfInBounds_toArray, List.set_cons_zero, List.set_cons_succ])
            | (refine stepC rfl (fun W hW => ?_) (fun W hW => callB hW (isMapName_is n.1 true HN.out W (hC.keep (nextW hb (nextX hB0 hW.out))) hnl)) ?_
               focus
                 go_simp
                 try with_reducible rfl
                 done
               simp only [Act.put, List.setIfInBounds_toArray, List.set_cons_zero, List.set_cons_succ])
            | (refine stepC rfl (fun W hW => ?_) (fun W hW => callB hW (isMap_is n.2 _ false W (HP.out.keep (nextX hB0 hW.out)) (by omega) HM.out)) ?_
               focus
                 go_simp
                 try with_reducible rfl
                 done
               simp only [Act.put, List.setIfInBounds_toArray, List.set_cons_zero, List.set_cons_succ]))
          refine stepN ?_
          intro w1 hw1
          have hB := nextW hb (nextX hB0 hw1.out)
          clear hw1
          go_wp2_with fail
          go_ret
          exact ⟨rfl, hB⟩
        · have HM := Lib.hid hM
          clear hM
          by_cases hz : k = 0
          · have HOk := Lib.hid (show okE ns k = true by subst hz; rw [okE_zero HX.out, HN.out, HM.out]; rfl)
            have b2 : ¬ (0 : Int) < (k : Int) := by omega
            have b2' : decide ((0 : Int) < (k : Int)) = false := by simpa using b2
            have b2n : ¬ 0 < k := by omega
            have b2m : decide (0 < k) = false := by simpa using b2n
            clear HCC hz
            go_wp2_with fail
            go_name_world W0 hW
            have e0 : W0.cell? ⟨wr.heap.size, 0, none⟩ = some (str n.1) := by rw [← hW]; simp [go_sem, str]
            have e1 : W0.cell? ⟨wr.heap.size, 1, none⟩ = some (.slice A1 n.2.length k1) := by rw [← hW]; simp [go_sem]
            have hB0 : Below wr.heap.size wr W0 := by rw [← hW]; go_grown
            clear hW
            refine wp_region_below (by kernel_rfl) (by kernel_rfl) ?_
            iterate 25 (first
              | (refine stepS rfl ?_; simp only [Act.put, List.setIfInBounds_toArray, List.set_cons_zero, List.set_cons_succ])
              | (refine stepV (v := ?_) rfl (fun W hW => ?_) ?_
                 rotate_left
                 focus
                   have qc0 := cellB hW.out e0
                   have qc1 := cellB hW.out e1
                   go_simp
                   try with_reducible rfl
                   done
                 simp only [Act.put, List.setIfInBounds_toArray, List.set_cons_zero, List.set_cons_succ])
              | (refine stepC rfl (fun W hW => ?_) (fun W hW => callB hW (isMapName_is n.1 true HN.out W (hC.keep (nextW hb (nextX hB0 hW.out))) hnl)) ?_
                 focus
                   go_simp
                   try with_reducible rfl
                   done
                 simp only [Act.put, List.setIfInBounds_toArray, List.set_cons_zero, List.set_cons_succ])
              | (refine stepC rfl (fun W hW => ?_) (fun W hW => callB hW (isMap_is n.2 _ true W (HP.out.keep (nextX hB0 hW.out)) (by omega) HM.out)) ?_
                 focus
                   go_simp
                   try with_reducible rfl
                   done
                 simp only [Act.put, List.setIfInBounds_toArray, List.set_cons_zero, List.set_cons_succ]))
            refine stepN ?_
            intro w1 hw1
            have hB := nextW hb (nextX hB0 hw1.out)
            clear hw1
            clear e0 e1 hB0
            go_wp2_with fail
            go_roundw
            case rel =>
              refine ⟨k + 1, by omega, by go_num, fun i hi => ?_, hB⟩
              rcases Nat.lt_or_ge i k with h | h
              · exact HA.out i h
              · obtain rfl : i = k := by omega
                exact HOk.out
            case measure => simp [intOf] <;> omega
          · obtain ⟨j, hj⟩ : ∃ j, k = j + 1 := ⟨k - 1, by omega⟩
            obtain ⟨m, hmj⟩ : ∃ m, ns[j]? = some m := ⟨_, List.getElem?_eq_getElem (by omega)⟩
            have p0 := cellB hb (HCC.out j m hmj).1
            have HX2 := Lib.hid (show ns[j + 1]? = some n by rw [← hj]; exact HX.out)
            have b2 : (0 : Int) < (k : Int) := by omega
            have b2n : 0 < k := by omega
            have b2m : decide (0 < k) = true := by simpa using b2n
            have b2' : decide ((0 : Int) < (k : Int)) = true := by simpa using b2
            have b3 : (0 : Int) ≤ (j : Int) := by omega
            have b4 : (j : Int) < (ns.length : Int) := by omega
            have v3 : IntKind.i64.wrap ((k : Int) - 1) = (j : Int) := by rw [IntWalk.i64_in _ (by omega)]; omega
            have HJ := Lib.hid hj
            have HMj := Lib.hid hmj
            clear HCC hmj hj hz
            have hq : ∀ W, (binOp .geq 9 (str m.1) (str n.1)).run Tryd.prog W = .ok (.bool (geS m.1 n.1)) W := fun W => run_geS W _ _
            rcases hG : geS m.1 n.1 with _ | _
            · have HOk := Lib.hid (show okE ns k = true by rw [HJ.out, okE_succ HX2.out HMj.out, HN.out, HM.out, hG]; rfl)
              rw [hG] at hq
              go_wp2_with fail
              go_name_world W0 hW
              have e0 : W0.cell? ⟨wr.heap.size, 0, none⟩ = some (str n.1) := by rw [← hW]; simp [go_sem, str]
              have e1 : W0.cell? ⟨wr.heap.size, 1, none⟩ = some (.slice A1 n.2.length k1) := by rw [← hW]; simp [go_sem]
              have hB0 : Below wr.heap.size wr W0 := by rw [← hW]; go_grown
              clear hW
              replace p0 := cellB hB0 p0
              refine wp_region_below (by kernel_rfl) (by kernel_rfl) ?_
              iterate 25 (first
                | (refine stepS rfl ?_; simp only [Act.put, List.setIfInBounds_toArray, List.set_cons_zero, List.set_cons_succ])
                | (refine stepV (v := ?_) rfl (fun W hW => ?_) ?_
                   rotate_left
                   focus
                     have qc0 := cellB hW.out e0
                     have qc1 := cellB hW.out e1
                     have qc2 := cellB hW.out p0
                     go_simp
                     try with_reducible rfl
                     done
                   simp only [Act.put, List.setIfInBounds_toArray, List.set_cons_zero, List.set_cons_succ])
                | (refine stepC rfl (fun W hW => ?_) (fun W hW => callB hW (isMapName_is n.1 true HN.out W (hC.keep (nextW hb (nextX hB0 hW.out))) hnl)) ?_
                   focus
                     go_simp
                     try with_reducible rfl
                     done
                   simp only [Act.put, List.setIfInBounds_toArray, List.set_cons_zero, List.set_cons_succ])
                | (refine stepC rfl (fun W hW => ?_) (fun W hW => callB hW (isMap_is n.2 _ true W (HP.out.keep (nextX hB0 hW.out)) (by omega) HM.out)) ?_
                   focus
                     go_simp
                     try with_reducible rfl
                     done
                   simp only [Act.put, List.setIfInBounds_toArray, List.set_cons_zero, List.set_cons_succ]))
              refine stepN ?_
              intro w1 hw1
              have hB := nextW hb (nextX hB0 hw1.out)
              clear hw1
              clear e0 e1 hB0
              go_wp2_with fail
              go_roundw
              case rel =>
                refine ⟨k + 1, by omega, by go_num, fun i hi => ?_, hB⟩
                rcases Nat.lt_or_ge i k with h | h
                · exact HA.out i h
                · obtain rfl : i = k := by omega
                  exact HOk.out
              case measure => simp [intOf] <;> omega
            · obtain rfl : false = t := by rw [← HT.out]; exact (envB_no hlt (by rw [HJ.out, okE_succ HX2.out HMj.out, HN.out, HM.out, hG]; rfl)).symm
              rw [hG] at hq
              go_wp2_with fail
              go_name_world W0 hW
              have e0 : W0.cell? ⟨wr.heap.size, 0, none⟩ = some (str n.1) := by rw [← hW]; simp [go_sem, str]
              have e1 : W0.cell? ⟨wr.heap.size, 1, none⟩ = some (.slice A1 n.2.length k1) := by rw [← hW]; simp [go_sem]
              have hB0 : Below wr.heap.size wr W0 := by rw [← hW]; go_grown
              clear hW
              replace p0 := cellB hB0 p0
              refine wp_region_below (by kernel_rfl) (by kernel_rfl) ?_
              iterate 25 (first
                | (refine stepS rfl ?_; simp only [Act.put, List.setIfInBounds_toArray, List.set_cons_zero, List.set_cons_succ])
                | (refine stepV (v := ?_) rfl (fun W hW => ?_) ?_
                   rotate_left
                   focus
                     have qc0 := cellB hW.out e0
                     have qc1 := cellB hW.out e1
                     have qc2 := cellB hW.out p0
                     go_simp
                     try with_reducible rfl
                     done
                   simp only [Act.put, List.setIfInBounds_toArray, List.set_cons_zero, List.set_cons_succ])
                | (refine stepC rfl (fun W hW => ?_) (fun W hW => callB hW (isMapName_is n.1 true HN.out W (hC.keep (nextW hb (nextX hB0 hW.out))) hnl)) ?_
                   focus
                     go_simp
                     try with_reducible rfl
                     done
                   simp only [Act.put, List.setIfInBounds_toArray, List.set_cons_zero, List.set_cons_succ])
                | (refine stepC rfl (fun W hW => ?_) (fun W hW => callB hW (isMap_is n.2 _ true W (HP.out.keep (nextX hB0 hW.out)) (by omega) HM.out)) ?_
                   focus
                     go_simp
                     try with_reducible rfl
                     done
                   simp only [Act.put, List.setIfInBounds_toArray, List.set_cons_zero, List.set_cons_succ]))
              refine stepN ?_
              intro w1 hw1
              have hB := nextW hb (nextX hB0 hw1.out)
              clear hw1
              go_wp2_with fail
              go_ret
              exact ⟨rfl, hB⟩
    · obtain rfl : k = ns.length := by omega
      have HE := Lib.hid (show decide (ns.length ≤ 8) = t by rw [← HT.out]; exact (envB_all HA.out).symm)
      clear HA
      by_cases h8 : ns.length ≤ 8
      · have b8 : (ns.length : Int) ≤ 8 := by omega
        obtain rfl : true = t := by rw [← HE.out]; exact (decide_eq_true h8).symm
        go_wp2_with fail
        go_ret
        exact ⟨rfl, hb⟩
      · have b8 : ¬ (ns.length : Int) ≤ 8 := by omega
        have b8' : decide ((ns.length : Int) ≤ 8) = false := by simpa using b8
        obtain rfl : false = t := by rw [← HE.out]; exact (decide_eq_false h8).symm
        go_wp2_with fail
        go_ret
        exact ⟨rfl, hb⟩

set_option maxRecDepth 100000 in
set_option maxHeartbeats 3200000 in
theorem laGood_is (ns : List Nm) (v : Value) (t : Bool) (w : World) (hv : RdE w v ns) (hnm : NmL ns) (hn : ns.length ≤ 1048576) (hm : ∀ n ∈ ns, n.2.length ≤ 1048576) (ht : envB ns = t) :
    Calls Tryd.prog 69 #[v] w fun e w' => e = .returned (.bool t) ∧ Below w.heap.size w w' := by
  obtain ⟨A, c, rfl, hl, hmx, hcell⟩ := hv
  unfold maxLen at hmx
  have HC := Lib.hid hcell
  have HT := Lib.hid ht
  clear hcell ht
  go_enter Tryd.func69, Tryd.ntmps69
  go_wp2_with fail
  go_loopw [7] (fun i wr => RelEn ns w i wr) (fun i _ => ns.length - (intOf i).toNat)
  case atStart => exact ⟨0, Nat.zero_le _, rfl, fun j hj => absurd hj (Nat.not_lt_zero _), by go_grown⟩
  case round =>
    obtain ⟨k, hk, rfl, hal, hb⟩ := hrel
    have HA := Lib.hid hal
    clear hal
    by_cases hlt : k < ns.length
    · obtain ⟨g, o, rfl, hg, hc⟩ := HC.out (by rintro rfl; simp at hlt)
      have hx := List.getElem?_eq_getElem hlt
      generalize ns[k] = n at *
      obtain ⟨c0, mv, c1, hp⟩ := hc k n hx
      have hnl := hnm n (List.mem_of_getElem? hx)
      have hpl := hm n (List.mem_of_getElem? hx)
      obtain ⟨A1, k1, rfl, -, -, -⟩ := id hp
      have HP := Lib.hid (hp.keep hb)
      have HX := Lib.hid hx
      replace c0 := cellB hb c0
      replace c1 := cellB hb c1
      unfold str at c0
      have b0 : (0 : Int) ≤ (k : Int) := by omega
      have b1 : (k : Int) < (ns.length : Int) := by omega
      have v1 : IntKind.i64.wrap ((k : Int) + 1) = (k : Int) + 1 := IntWalk.i64_in _ (by omega)
      have v2 : IntKind.i64.wrap (k : Int) = (k : Int) := IntWalk.i64_in _ (by omega)
      have HCC := Lib.hid hc
      clear hp hx hc HC
      have pre : ∀ W0, Below wr.heap.size wr W0 → Below wr.heap.size wr W0 := fun _ h => h
      rcases hN : nameB n.1 with _ | _
      · obtain rfl : false = t := by rw [← HT.out]; exact (envB_no hlt (by rw [okE_at HX.out, hN]; rfl)).symm
        have HN := Lib.hid hN
        clear hN HCC
        go_wp2_with fail
        go_name_world W0 hW
        have e0 : W0.cell? ⟨wr.heap.size, 0, none⟩ = some (str n.1) := by rw [← hW]; simp [go_sem, str]
        have e1 : W0.cell? ⟨wr.heap.size, 1, none⟩ = some (.slice A1 n.2.length k1) := by rw [← hW]; simp [go_sem]
        have hB0 : Below wr.heap.size wr W0 := by rw [← hW]; go_grown
        clear hW
        refine wp_region_below (by kernel_rfl) (by kernel_rfl) ?_
        iterate 25 (first
          | (refine stepS rfl ?_; simp only [Act.put, List.setIfInBounds_toArray, List.set_cons_zero, List.set_cons_succ])
          | (refine stepV (v := ?_) rfl (fun W hW => ?_) ?_
             rotate_left
             focus
               have qc0 := cellB hW.out e0
               have qc1 := cellB hW.out e1
               go_simp
               try with_reducible rfl
               done
             simp only [Act.put, List.setIfInBounds_toArray, List.set_cons_zero, List.set_cons_succ])
          | (refine stepC rfl (fun W hW => ?_) (fun W hW => callB hW (laName_is n.1 false HN.out W hnl)) ?_
             focus
               go_simp
               try with_reducible rfl
               done
             simp only [Act.put, List.setIfInBounds_toArray, List.set_cons_zero, List.set_cons_succ]))
        refine stepN ?_
        intro w1 hw1
        have hB := nextW hb (nextX hB0 hw1.out)
        clear hw1
        go_wp2_with fail
        go_ret
        exact ⟨rfl, hB⟩
      · have HN := Lib.hid hN
        clear hN
        rcases hM : okMap n.2 with _ | _
        · obtain rfl : false = t := by rw [← HT.out]; exact (envB_no hlt (by rw [okE_at HX.out, HN.out, hM]; rfl)).symm
          have HM := Lib.hid hM
          clear hM HCC
          go_wp2_with fail
          go_name_world W0 hW
          have e0 : W0.cell? ⟨wr.heap.size, 0, none⟩ = some (str n.1) := by rw [← hW]; simp [go_sem, str]
          have e1 : W0.cell? ⟨wr.heap.size, 1, none⟩ = some (.slice A1 n.2.length k1) := by rw [← hW]; simp [go_sem]
          have hB0 : Below wr.heap.size wr W0 := by rw [← hW]; go_grown
          clear hW
          refine wp_region_below (by kernel_rfl) (by kernel_rfl) ?_
          iterate 25 (first
            | (refine stepS rfl ?_; simp only [Act.put, List.setIfInBounds_toArray, List.set_cons_zero, List.set_cons_succ])
            | (refine stepV (v := ?_) rfl (fun W hW => ?_) ?_
               rotate_left
               focus
                 have qc0 := cellB hW.out e0
                 have qc1 := cellB hW.out e1
                 go_simp
                 try with_reducible rfl
                 done
               simp only [Act.put, List.setIfInBounds_toArray, List.set_cons_zero, List.set_cons_succ])
            | (refine stepC rfl (fun W hW => ?_) (fun W hW => callB hW (laName_is n.1 true HN.out W hnl)) ?_
               focus
                 go_simp
                 try with_reducible rfl
                 done
               simp only [Act.put, List.setIfInBounds_toArray, List.set_cons_zero, List.set_cons_succ])
            | (refine stepC rfl (fun W hW => ?_) (fun W hW => callB hW (imGood_is n.2 _ false W (HP.out.keep (nextX hB0 hW.out)) (by omega) HM.out)) ?_
               focus
                 go_simp
                 try with_reducible rfl
                 done
               simp only [Act.put, List.setIfInBounds_toArray, List.set_cons_zero, List.set_cons_succ]))
          refine stepN ?_
          intro w1 hw1
          have hB := nextW hb (nextX hB0 hw1.out)
          clear hw1
          go_wp2_with fail
          go_ret
          exact ⟨rfl, hB⟩
        · have HM := Lib.hid hM
          clear hM
          by_cases hz : k = 0
          · have HOk := Lib.hid (show okE ns k = true by subst hz; rw [okE_zero HX.out, HN.out, HM.out]; rfl)
            have b2 : ¬ (0 : Int) < (k : Int) := by omega
            have b2' : decide ((0 : Int) < (k : Int)) = false := by simpa using b2
            have b2n : ¬ 0 < k := by omega
            have b2m : decide (0 < k) = false := by simpa using b2n
            clear HCC hz
            go_wp2_with fail
            go_name_world W0 hW
            have e0 : W0.cell? ⟨wr.heap.size, 0, none⟩ = some (str n.1) := by rw [← hW]; simp [go_sem, str]
            have e1 : W0.cell? ⟨wr.heap.size, 1, none⟩ = some (.slice A1 n.2.length k1) := by rw [← hW]; simp [go_sem]
            have hB0 : Below wr.heap.size wr W0 := by rw [← hW]; go_grown
            clear hW
            refine wp_region_below (by kernel_rfl) (by kernel_rfl) ?_
            iterate 25 (first
              | (refine stepS rfl ?_; simp only [Act.put, List.setIfInBounds_toArray, List.set_cons_zero, List.set_cons_succ])
              | (refine stepV (v := ?_) rfl (fun W hW => ?_) ?_
                 rotate_left
                 focus
                   have qc0 := cellB hW.out e0
                   have qc1 := cellB hW.out e1
                   go_simp
                   try with_reducible rfl
                   done
                 simp only [Act.put, List.setIfInBounds_toArray, List.set_cons_zero, List.set_cons_succ])
              | (refine stepC rfl (fun W hW => ?_) (fun W hW => callB hW (laName_is n.1 true HN.out W hnl)) ?_
                 focus
                   go_simp
                   try with_reducible rfl
                   done
                 simp only [Act.put, List.setIfInBounds_toArray, List.set_cons_zero, List.set_cons_succ])
              | (refine stepC rfl (fun W hW => ?_) (fun W hW => callB hW (imGood_is n.2 _ true W (HP.out.keep (nextX hB0 hW.out)) (by omega) HM.out)) ?_
                 focus
                   go_simp
                   try with_reducible rfl
                   done
                 simp only [Act.put, List.setIfInBounds_toArray, List.set_cons_zero, List.set_cons_succ]))
            refine stepN ?_
            intro w1 hw1
            have hB := nextW hb (nextX hB0 hw1.out)
            clear hw1
            clear e0 e1 hB0
            go_wp2_with fail
            go_roundw
            case rel =>
              refine ⟨k + 1, by omega, by go_num, fun i hi => ?_, hB⟩
              rcases Nat.lt_or_ge i k with h | h
              · exact HA.out i h
              · obtain rfl : i = k := by omega
                exact HOk.out
            case measure => simp [intOf] <;> omega
          · obtain ⟨j, hj⟩ : ∃ j, k = j + 1 := ⟨k - 1, by omega⟩
            obtain ⟨m, hmj⟩ : ∃ m, ns[j]? = some m := ⟨_, List.getElem?_eq_getElem (by omega)⟩
            have p0 := cellB hb (HCC.out j m hmj).1
            have HX2 := Lib.hid (show ns[j + 1]? = some n by rw [← hj]; exact HX.out)
            have b2 : (0 : Int) < (k : Int) := by omega
            have b2n : 0 < k := by omega
            have b2m : decide (0 < k) = true := by simpa using b2n
            have b2' : decide ((0 : Int) < (k : Int)) = true := by simpa using b2
            have b3 : (0 : Int) ≤ (j : Int) := by omega
            have b4 : (j : Int) < (ns.length : Int) := by omega
            have v3 : IntKind.i64.wrap ((k : Int) - 1) = (j : Int) := by rw [IntWalk.i64_in _ (by omega)]; omega
            have HJ := Lib.hid hj
            have HMj := Lib.hid hmj
            clear HCC hmj hj hz
            have hq : ∀ W, (binOp .geq 9 (str m.1) (str n.1)).run Tryd.prog W = .ok (.bool (geS m.1 n.1)) W := fun W => run_geS W _ _
            rcases hG : geS m.1 n.1 with _ | _
            · have HOk := Lib.hid (show okE ns k = true by rw [HJ.out, okE_succ HX2.out HMj.out, HN.out, HM.out, hG]; rfl)
              rw [hG] at hq
              go_wp2_with fail
              go_name_world W0 hW
              have e0 : W0.cell? ⟨wr.heap.size, 0, none⟩ = some (str n.1) := by rw [← hW]; simp [go_sem, str]
              have e1 : W0.cell? ⟨wr.heap.size, 1, none⟩ = some (.slice A1 n.2.length k1) := by rw [← hW]; simp [go_sem]
              have hB0 : Below wr.heap.size wr W0 := by rw [← hW]; go_grown
              clear hW
              replace p0 := cellB hB0 p0
              refine wp_region_below (by kernel_rfl) (by kernel_rfl) ?_
              iterate 25 (first
                | (refine stepS rfl ?_; simp only [Act.put, List.setIfInBounds_toArray, List.set_cons_zero, List.set_cons_succ])
                | (refine stepV (v := ?_) rfl (fun W hW => ?_) ?_
                   rotate_left
                   focus
                     have qc0 := cellB hW.out e0
                     have qc1 := cellB hW.out e1
                     have qc2 := cellB hW.out p0
                     go_simp
                     try with_reducible rfl
                     done
                   simp only [Act.put, List.setIfInBounds_toArray, List.set_cons_zero, List.set_cons_succ])
                | (refine stepC rfl (fun W hW => ?_) (fun W hW => callB hW (laName_is n.1 true HN.out W hnl)) ?_
                   focus
                     go_simp
                     try with_reducible rfl
                     done
                   simp only [Act.put, List.setIfInBounds_toArray, List.set_cons_zero, List.set_cons_succ])
                | (refine stepC rfl (fun W hW => ?_) (fun W hW => callB hW (imGood_is n.2 _ true W (HP.out.keep (nextX hB0 hW.out)) (by omega) HM.out)) ?_
                   focus
                     go_simp
                     try with_reducible rfl
                     done
                   simp only [Act.put, List.setIfInBounds_toArray, List.set_cons_zero, List.set_cons_succ]))
              refine stepN ?_
              intro w1 hw1
              have hB := nextW hb (nextX hB0 hw1.out)
              clear hw1
              clear e0 e1 hB0
              go_wp2_with fail
              go_roundw
              case rel =>
                refine ⟨k + 1, by omega, by go_num, fun i hi => ?_, hB⟩
                rcases Nat.lt_or_ge i k with h | h
                · exact HA.out i h
                · obtain rfl : i = k := by omega
                  exact HOk.out
              case measure => simp [intOf] <;> omega
            · obtain rfl : false = t := by rw [← HT.out]; exact (envB_no hlt (by rw [HJ.out, okE_succ HX2.out HMj.out, HN.out, HM.out, hG]; rfl)).symm
              rw [hG] at hq
              go_wp2_with fail
              go_name_world W0 hW
              have e0 : W0.cell? ⟨wr.heap.size, 0, none⟩ = some (str n.1) := by rw [← hW]; simp [go_sem, str]
              have e1 : W0.cell? ⟨wr.heap.size, 1, none⟩ = some (.slice A1 n.2.length k1) := by rw [← hW]; simp [go_sem]
              have hB0 : Below wr.heap.size wr W0 := by rw [← hW]; go_grown
              clear hW
              replace p0 := cellB hB0 p0
              refine wp_region_below (by kernel_rfl) (by kernel_rfl) ?_
              iterate 25 (first
                | (refine stepS rfl ?_; simp only [Act.put, List.setIfInBounds_toArray, List.set_cons_zero, List.set_cons_succ])
                | (refine stepV (v := ?_) rfl (fun W hW => ?_) ?_
                   rotate_left
                   focus
                     have qc0 := cellB hW.out e0
                     have qc1 := cellB hW.out e1
                     have qc2 := cellB hW.out p0
                     go_simp
                     try with_reducible rfl
                     done
                   simp only [Act.put, List.setIfInBounds_toArray, List.set_cons_zero, List.set_cons_succ])
                | (refine stepC rfl (fun W hW => ?_) (fun W hW => callB hW (laName_is n.1 true HN.out W hnl)) ?_
                   focus
                     go_simp
                     try with_reducible rfl
                     done
                   simp only [Act.put, List.setIfInBounds_toArray, List.set_cons_zero, List.set_cons_succ])
                | (refine stepC rfl (fun W hW => ?_) (fun W hW => callB hW (imGood_is n.2 _ true W (HP.out.keep (nextX hB0 hW.out)) (by omega) HM.out)) ?_
                   focus
                     go_simp
                     try with_reducible rfl
                     done
                   simp only [Act.put, List.setIfInBounds_toArray, List.set_cons_zero, List.set_cons_succ]))
              refine stepN ?_
              intro w1 hw1
              have hB := nextW hb (nextX hB0 hw1.out)
              clear hw1
              go_wp2_with fail
              go_ret
              exact ⟨rfl, hB⟩
    · obtain rfl : k = ns.length := by omega
      have HE := Lib.hid (show decide (ns.length ≤ 8) = t by rw [← HT.out]; exact (envB_all HA.out).symm)
      clear HA
      by_cases h8 : ns.length ≤ 8
      · have b8 : (ns.length : Int) ≤ 8 := by omega
        obtain rfl : true = t := by rw [← HE.out]; exact (decide_eq_true h8).symm
        go_wp2_with fail
        go_ret
        exact ⟨rfl, hb⟩
      · have b8 : ¬ (ns.length : Int) ≤ 8 := by omega
        have b8' : decide ((ns.length : Int) ≤ 8) = false := by simpa using b8
        obtain rfl : false = t := by rw [← HE.out]; exact (decide_eq_false h8).symm
        go_wp2_with fail
        go_ret
        exact ⟨rfl, hb⟩

set_option maxHeartbeats 800000 in
theorem iIsEnvironment_is (ns : List Nm) (v : Value) (t : Bool) (w : World) (hC : CutW w) (hv : RdE w v ns) (hnm : NmL ns) (hn : ns.length ≤ 1048576) (hm : ∀ n ∈ ns, n.2.length ≤ 1048576) (ht : envB ns = t) :
    Calls Tryd.prog 30 #[v] w fun e w' => e = .returned (.bool t) ∧ Below w.heap.size w w' := by
  have HV := Lib.hid hv
  have HT := Lib.hid ht
  clear hv ht
  go_enter Tryd.func30, Tryd.ntmps30
  go_wp2_with fail
  refine (isEnvironment_is ns v t _ (hC.keep (by go_grown)) (HV.out.keep (by go_grown)) hnm hn hm HT.out).mono ?_
  rintro e w1 ⟨rfl, h1⟩
  have hB : Below w.heap.size w w1 := nextX (by go_grown) h1
  clear h1
  go_wp2_with fail
  go_ret
  exact ⟨rfl, hB⟩

set_option maxHeartbeats 800000 in
theorem sIsEnvironment_is (ns : List Nm) (v : Value) (t : Bool) (w : World) (hv : RdE w v ns) (hnm : NmL ns) (hn : ns.length ≤ 1048576) (hm : ∀ n ∈ ns, n.2.length ≤ 1048576) (ht : envB ns = t) :
    Calls Tryd.prog 28 #[v] w fun e w' => e = .returned (.bool t) ∧ Below w.heap.size w w' := by
  have HV := Lib.hid hv
  have HT := Lib.hid ht
  clear hv ht
  go_enter Tryd.func28, Tryd.ntmps28
  go_wp2_with fail
  refine (laGood_is ns v t _ (HV.out.keep (by go_grown)) hnm hn hm HT.out).mono ?_
  rintro e w1 ⟨rfl, h1⟩
  have hB : Below w.heap.size w w1 := nextX (by go_grown) h1
  clear h1
  go_wp2_with fail
  go_ret
  exact ⟨rfl, hB⟩

end Go.Proofs.YtmabngjmfjjogaaDoor
