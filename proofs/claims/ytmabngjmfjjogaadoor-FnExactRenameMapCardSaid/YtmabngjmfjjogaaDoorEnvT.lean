/- Texts of environments: EnvironmentText of both. -/
import Derived.Test.YtmabngjmfjjogaaDoorEnv
namespace Go.Proofs.YtmabngjmfjjogaaDoor
open Go.RowKit

theorem envB_yes {ns : List Nm} (h : envB ns = true) : ns.length ≤ 8 ∧ ∀ n ∈ ns, nameB n.1 = true ∧ okMap n.2 = true := by
  unfold envB at h
  simp only [Bool.and_eq_true, decide_eq_true_eq, List.all_eq_true] at h
  refine ⟨h.2, fun n hn => ?_⟩
  obtain ⟨i, hi⟩ := List.getElem?_of_mem hn
  have h1 := h.1 i (List.mem_range.2 (List.getElem?_eq_some_iff.1 hi).1)
  rw [okE_at hi] at h1
  simp only [Bool.and_eq_true] at h1
  exact ⟨h1.1, h1.2.1⟩
theorem nameB_len8 {l : List UInt8} (h : nameB l = true) : 1 ≤ l.length ∧ l.length ≤ 8 := by
  unfold nameB at h
  simp only [Bool.and_eq_true, decide_eq_true_eq] at h
  exact h.1
/-- The text of a named map. -/
def nmA (n : Nm) : List UInt8 := n.1 ++ [61]
def nmB (n : Nm) : List UInt8 := nmA n ++ mapL n.2
def nmL (n : Nm) : List UInt8 := nmB n ++ [10]
def envL (ns : List Nm) : List UInt8 := ns.flatMap nmL
theorem envL_next {ns : List Nm} {k : Nat} {n : Nm} (h : ns[k]? = some n) : envL (ns.take (k + 1)) = envL (ns.take k) ++ nmL n := by
  unfold envL
  rw [snocT h, List.flatMap_append]
  simp
theorem nmL_len {n : Nm} (h1 : nameB n.1 = true) (h2 : okMap n.2 = true) : (nmA n).length ≤ 9 ∧ (mapL n.2).length ≤ 1056 ∧ (nmB n).length ≤ 1065 ∧ (nmL n).length ≤ 1066 := by
  have a := nameB_len8 h1
  have b := mapL_len (OkP.of_map h2)
  have c := okMap_len h2
  have d : (mapL n.2).length ≤ 1056 := by omega
  refine ⟨by unfold nmA; simp; omega, d, by unfold nmB nmA; simp; omega, by unfold nmL nmB nmA; simp; omega⟩
theorem envL_len : ∀ {ns : List Nm}, (∀ n ∈ ns, nameB n.1 = true ∧ okMap n.2 = true) → (envL ns).length ≤ 1066 * ns.length
  | [], _ => by simp [envL]
  | n :: r, h => by
    have a := nmL_len (h n (List.mem_cons_self ..)).1 (h n (List.mem_cons_self ..)).2
    have b := envL_len (ns := r) (fun m hm => h m (List.mem_cons_of_mem _ hm))
    unfold envL at b ⊢
    rw [List.flatMap_cons, List.length_append, List.length_cons]
    omega
theorem nmTexts (n : Nm) (h1 : nameB n.1 = true) (h2 : okMap n.2 = true) :
    (∀ W, (binOp .add 9 (str n.1) (.string ⟨#[61]⟩)).run Tryd.prog W = .ok (str (nmA n)) W) ∧
    (∀ W, (binOp .add 9 (str (nmA n)) (str (mapL n.2))).run Tryd.prog W = .ok (str (nmB n)) W) ∧
    (∀ W, (binOp .add 9 (str (nmB n)) (.string ⟨#[10]⟩)).run Tryd.prog W = .ok (str (nmL n)) W) := by
  obtain ⟨a, b, c, d⟩ := nmL_len h1 h2
  have e := nameB_len8 h1
  exact ⟨fun W => run_cat W _ [61] (by omega) (by simp), fun W => run_cat W _ _ (by omega) (by omega), fun W => run_cat W _ [10] (by omega) (by simp)⟩
def etQ (ns : List Nm) : List UInt8 × Bool := if envB ns = true then (envL ns, true) else ([], false)
theorem etQ_yes {ns : List Nm} {l : List UInt8} {t : Bool} (hl : etQ ns = (l, t)) (h : envB ns = true) : envL ns = l ∧ true = t := by
  unfold etQ at hl; rw [if_pos h] at hl; exact Prod.mk.inj hl
theorem etQ_no {ns : List Nm} {l : List UInt8} {t : Bool} (hl : etQ ns = (l, t)) (h : envB ns = false) : [] = l ∧ false = t := by
  unfold etQ at hl; rw [if_neg (by rw [h]; simp)] at hl; exact Prod.mk.inj hl

def RelEs (ns : List Nm) (w : World) (s i : Value) (wr : World) : Prop := ∃ k : Nat, k ≤ ns.length ∧ i = .int .i64 k ∧ s = str (envL (ns.take k)) ∧ Below w.heap.size w wr
set_option maxRecDepth 100000 in
set_option maxHeartbeats 3200000 in
theorem sEnvironmentText_is (ns : List Nm) (v : Value) (l : List UInt8) (t : Bool) (hl : etQ ns = (l, t)) (w : World) (hv : RdE w v ns) (hnm : NmL ns) (hn : ns.length ≤ 1048576) (hm : ∀ n ∈ ns, n.2.length ≤ 1048576) :
    Calls Tryd.prog 32 #[v] w (RetSB w l t) := by
  have HV := Lib.hid hv
  rcases h : envB ns with _ | _
  · obtain ⟨rfl, rfl⟩ := etQ_no hl h
    have HK := Lib.hid h
    clear hl h hv
    go_enter Tryd.func32, Tryd.ntmps32
    go_wp2_with fail
    refine (laGood_is ns v false _ (HV.out.keep (by go_grown)) hnm hn hm HK.out).mono ?_
    rintro e w1 ⟨rfl, h1⟩
    have hB : Below w.heap.size w w1 := nextX (by go_grown) h1
    clear h1
    go_wp2_with fail
    go_ret2
    exact ⟨rfl, hB⟩
  · obtain ⟨rfl, rfl⟩ := etQ_yes hl h
    have HK := Lib.hid h
    have hy := envB_yes h
    have hn8 := hy.1
    have HY := Lib.hid hy.2
    obtain ⟨A, c, rfl, hle, hmx, hcell⟩ := hv
    unfold maxLen at hmx
    have HCl := Lib.hid hcell
    clear hl h hy hcell
    go_enter Tryd.func32, Tryd.ntmps32
    go_wp2_with fail
    refine (laGood_is ns _ true _ (HV.out.keep (by go_grown)) hnm hn hm HK.out).mono ?_
    rintro e w1 ⟨rfl, h1⟩
    have hB : Below w.heap.size w w1 := nextX (by go_grown) h1
    clear h1
    go_wp2_with fail
    go_loopw [4, 12] (fun s i wr => RelEs ns w1 s i wr) (fun _ i _ => ns.length - (intOf i).toNat)
    case atStart => exact ⟨0, Nat.zero_le _, rfl, rfl, by go_grown⟩
    case round =>
     obtain ⟨k, hk2, rfl, rfl, hb⟩ := hrel
     have hzr := hb.size
     by_cases hlt : k < ns.length
     · obtain ⟨g, o, rfl, hg, hcc⟩ := HCl.out (by rintro rfl; simp at hlt)
       have hx := List.getElem?_eq_getElem hlt
       generalize ns[k] = n at *
       obtain ⟨c0, mv, c1, hp⟩ := hcc k n hx
       obtain ⟨A1, k1, rfl, -, -, -⟩ := id hp
       have HNx := Lib.hid (envL_next hx)
       obtain ⟨o1, o2⟩ := HY.out n (List.mem_of_getElem? hx)
       obtain ⟨t1, t2, t3⟩ := nmTexts n o1 o2
       have hln := nmL_len o1 o2
       have hml := envL_len (ns := ns.take k) (fun m hm => HY.out m (List.mem_of_mem_take hm))
       have htl : (ns.take k).length ≤ k := by rw [List.length_take]; omega
       have HOk := Lib.hid (OkP.of_map o2)
       have hol := (okMap_len o2).2
       have b0 : (0 : Int) ≤ (k : Int) := by omega
       have b1 : (k : Int) < (ns.length : Int) := by omega
       have v2 : IntKind.i64.wrap ((k : Int) + 1) = (k : Int) + 1 := IntWalk.i64_in _ (by omega)
       have v3 : IntKind.i64.wrap (k : Int) = (k : Int) := IntWalk.i64_in _ (by omega)
       have hbw := nextW hB hb
       have HP := Lib.hid (hp.keep hbw)
       replace c0 := cellB hbw c0
       replace c1 := cellB hbw c1
       unfold str at c0
       clear hx hcc HCl hp o1 o2

       have t4 : ∀ W, (binOp .add 9 (str (envL (ns.take k))) (str (nmL n))).run Tryd.prog W = .ok (str (envL (ns.take (k + 1)))) W := fun W => by
         rw [HNx.out]
         exact run_cat W _ _ (by omega) (by omega)
       go_wp2_with fail
       go_name_world W0 hW
       have e0 : W0.cell? ⟨wr.heap.size, 0, none⟩ = some (str n.1) := by rw [← hW]; simp [go_sem, str]
       have e1 : W0.cell? ⟨wr.heap.size, 1, none⟩ = some (.slice A1 n.2.length k1) := by rw [← hW]; simp [go_sem]
       have hB0 : Below wr.heap.size wr W0 := by rw [← hW]; go_grown
       clear hW c0 c1

       refine wp_region_below (by kernel_rfl) (by kernel_rfl) ?_
       iterate 11 (first
         | (refine stepV (v := ?_) rfl (fun W hW => ?_) ?_
            rotate_left
            focus
              have qc0 := cellB hW.out e0
              have qc1 := cellB hW.out e1
              go_simp
              try with_reducible rfl
              done
            simp only [Act.put, List.setIfInBounds_toArray, List.set_cons_zero, List.set_cons_succ])
         | (refine stepC rfl (fun W hW => ?_) (fun W hW => callB hW (imText_is n.2 _ W (HP.out.keep (nextX hB0 hW.out)) HOk.out (by omega))) ?_
            focus
              go_simp
              try with_reducible rfl
              done
            simp only [Act.put, List.setIfInBounds_toArray, List.set_cons_zero, List.set_cons_succ]))
       refine stepN ?_
       intro w2 hw2
       have hB2 := nextW hb (nextX hB0 hw2.out)
       clear hw2 hB0 t1 t2 t3 t4 e0 e1
       go_wp2_with fail
       go_roundw
       case rel => exact ⟨k + 1, by omega, by go_num, rfl, hB2⟩
       case measure => simp [intOf] <;> omega
     · obtain rfl : k = ns.length := by omega
       have HE := Lib.hid (show envL (ns.take ns.length) = envL ns by rw [List.take_length])
       go_wp2_with fail
       go_ret2
       exact ⟨by rw [← HE.out]; rfl, nextW hB hb⟩

def RelEx (ns : List Nm) (w : World) (i : Value) (wr : World) : Prop := ∃ k : Nat, k ≤ ns.length ∧ i = .int .i64 k ∧ IsB w.heap.size (envL (ns.take k)) wr ∧ Below w.heap.size w wr
set_option maxRecDepth 100000 in
set_option maxHeartbeats 3200000 in
theorem iEnvironmentText_is (ns : List Nm) (v : Value) (l : List UInt8) (t : Bool) (hl : etQ ns = (l, t)) (w : World) (hC : CutW w) (hT : Tab w) (hv : RdE w v ns) (hnm : NmL ns) (hn : ns.length ≤ 1048576) (hm : ∀ n ∈ ns, n.2.length ≤ 1048576) :
    Calls Tryd.prog 33 #[v] w (RetSB w l t) := by
  have HV := Lib.hid hv
  rcases h : envB ns with _ | _
  · obtain ⟨rfl, rfl⟩ := etQ_no hl h
    have HK := Lib.hid h
    clear hl h hv
    go_enter Tryd.func33, Tryd.ntmps33
    go_wp2_with fail
    refine (isEnvironment_is ns v false _ (hC.keep (by go_grown)) (HV.out.keep (by go_grown)) hnm hn hm HK.out).mono ?_
    rintro e w1 ⟨rfl, h1⟩
    have hB : Below w.heap.size w w1 := nextX (by go_grown) h1
    clear h1
    go_wp2_with fail
    go_ret2
    exact ⟨rfl, hB⟩
  · obtain ⟨rfl, rfl⟩ := etQ_yes hl h
    have HK := Lib.hid h
    have hy := envB_yes h
    have hn8 := hy.1
    have HY := Lib.hid hy.2
    obtain ⟨A, c, rfl, hle, hmx, hcell⟩ := hv
    unfold maxLen at hmx
    have HCl := Lib.hid hcell
    clear hl h hy hcell
    go_enter Tryd.func33, Tryd.ntmps33
    go_wp2_with fail
    refine (isEnvironment_is ns _ true _ (hC.keep (by go_grown)) (HV.out.keep (by go_grown)) hnm hn hm HK.out).mono ?_
    rintro e w1 ⟨rfl, h1⟩
    have hB : Below w.heap.size w w1 := nextX (by go_grown) h1
    clear h1
    have HSt := Lib.hid (Lib.fresh_isBuilder 94 5 w1)
    go_wp2_with fail
    go_loopw [12] (fun i wr => RelEx ns w1 i wr) (fun i _ => ns.length - (intOf i).toNat)
    case atStart => exact ⟨0, Nat.zero_le _, rfl, HSt.out, by go_grown⟩
    case round =>
     obtain ⟨k, hk2, rfl, hib, hb⟩ := hrel
     have HIb := Lib.hid hib
     have zib := hib.lt
     have hzr := hb.size
     clear hib
     by_cases hlt : k < ns.length
     · obtain ⟨g, o, rfl, hg, hcc⟩ := HCl.out (by rintro rfl; simp at hlt)
       have hx := List.getElem?_eq_getElem hlt
       generalize ns[k] = n at *
       obtain ⟨c0, mv, c1, hp⟩ := hcc k n hx
       obtain ⟨A1, k1, rfl, -, -, -⟩ := id hp
       have HNx := Lib.hid (envL_next hx)
       obtain ⟨o1, o2⟩ := HY.out n (List.mem_of_getElem? hx)
       obtain ⟨t1, t2, t3⟩ := nmTexts n o1 o2
       have hln := nmL_len o1 o2
       have hml := envL_len (ns := ns.take k) (fun m hm => HY.out m (List.mem_of_mem_take hm))
       have htl : (ns.take k).length ≤ k := by rw [List.length_take]; omega
       have HOk := Lib.hid (OkP.of_map o2)
       have hol := (okMap_len o2).2
       have b0 : (0 : Int) ≤ (k : Int) := by omega
       have b1 : (k : Int) < (ns.length : Int) := by omega
       have v2 : IntKind.i64.wrap ((k : Int) + 1) = (k : Int) + 1 := IntWalk.i64_in _ (by omega)
       have v3 : IntKind.i64.wrap (k : Int) = (k : Int) := IntWalk.i64_in _ (by omega)
       have hbw := nextW hB hb
       have HP := Lib.hid (hp.keep hbw)
       replace c0 := cellB hbw c0
       replace c1 := cellB hbw c1
       unfold str at c0
       clear hx hcc HCl hp o1 o2
       go_wp2_with fail
       go_name_world W0 hW
       have e0 : W0.cell? ⟨wr.heap.size, 0, none⟩ = some (str n.1) := by rw [← hW]; simp [go_sem, str]
       have e1 : W0.cell? ⟨wr.heap.size, 1, none⟩ = some (.slice A1 n.2.length k1) := by rw [← hW]; simp [go_sem]
       have hB0 : Below wr.heap.size wr W0 := by rw [← hW]; go_grown
       clear hW c0 c1
       have HT0 := Lib.hid (hT.keep (nextW hbw hB0))
       refine wp_region_HT (S := fun w' : World => w'.cell? ⟨wr.heap.size, 0, none⟩ = some (str n.1) ∧ w'.cell? ⟨wr.heap.size, 1, none⟩ = some (.slice A1 n.2.length k1)) 8 (by kernel_rfl) (by kernel_rfl) ?_
       have hS0 : (fun w' : World => w'.cell? ⟨wr.heap.size, 0, none⟩ = some (str n.1) ∧ w'.cell? ⟨wr.heap.size, 1, none⟩ = some (.slice A1 n.2.length k1)) _ := ⟨e0, e1⟩
       refine HT.take' (i := 0) (v := ?_) rfl (by kernel_rfl) (by decide) (by kernel_rfl) (by kernel_rfl) (fun _ _ _ h => h) (by rfl) (fun w' hS => ?_) hS0 ?_
       rotate_left
       focus
         obtain ⟨k0, k1⟩ := hS
         go_simp
         try with_reducible rfl
         done
       simp only [Act.put, List.setIfInBounds_toArray, List.set_cons_zero, List.set_cons_succ]
       refine HT.take' (i := 1) (v := ?_) rfl (by kernel_rfl) (by decide) (by kernel_rfl) (by kernel_rfl) (fun _ _ _ h => h) (by rfl) (fun w' hS => ?_) hS0 ?_
       rotate_left
       focus
         obtain ⟨k0, k1⟩ := hS
         go_simp
         try with_reducible rfl
         done
       simp only [Act.put, List.setIfInBounds_toArray, List.set_cons_zero, List.set_cons_succ]
       refine HT.take' (i := 2) (v := ?_) rfl (by kernel_rfl) (by decide) (by kernel_rfl) (by kernel_rfl) (fun _ _ _ h => h) (by rfl) (fun w' hS => ?_) hS0 ?_
       rotate_left
       focus
         obtain ⟨k0, k1⟩ := hS
         go_simp
         try with_reducible rfl
         done
       simp only [Act.put, List.setIfInBounds_toArray, List.set_cons_zero, List.set_cons_succ]
       refine HT.take' (i := 3) (v := ?_) rfl (by kernel_rfl) (by decide) (by kernel_rfl) (by kernel_rfl) (fun _ _ _ h => h) (by rfl) (fun w' hS => ?_) hS0 ?_
       rotate_left
       focus
         obtain ⟨k0, k1⟩ := hS
         go_simp
         try with_reducible rfl
         done
       simp only [Act.put, List.setIfInBounds_toArray, List.set_cons_zero, List.set_cons_succ]
       refine HT.take' (i := 4) (v := ?_) rfl (by kernel_rfl) (by decide) (by kernel_rfl) (by kernel_rfl) (fun _ _ _ h => h) (by rfl) (fun w' hS => ?_) hS0 ?_
       rotate_left
       focus
         obtain ⟨k0, k1⟩ := hS
         go_simp
         try with_reducible rfl
         done
       simp only [Act.put, List.setIfInBounds_toArray, List.set_cons_zero, List.set_cons_succ]
       refine HT.one' (i := 5) rfl (by decide) (by kernel_rfl) (fun K hK => ?_)
       go_simp
       refine (pointsText_is n.2 _ _ (HP.out.keep (nextX hB0 (by go_grown))) HOk.out (by omega) (HT0.out.keep (by go_grown))).mono ?_
       rintro e w2 ⟨rfl, h2⟩
       have hX2 : Below W0.heap.size W0 w2 := nextX (by go_grown) h2
       go_wp2_with fail
       have hS1 : (fun w' : World => w'.cell? ⟨wr.heap.size, 0, none⟩ = some (str n.1) ∧ w'.cell? ⟨wr.heap.size, 1, none⟩ = some (.slice A1 n.2.length k1)) _ := ⟨cellB hX2 e0, cellB hX2 e1⟩
       refine hK _ _ hS1 ?_
       clear hK
       try simp only [Act.put, List.setIfInBounds_toArray, List.set_cons_zero, List.set_cons_succ]
       refine HT.take' (i := 6) (v := ?_) rfl (by kernel_rfl) (by decide) (by kernel_rfl) (by kernel_rfl) (fun _ _ _ h => h) (by rfl) (fun w' hS => ?_) hS1 ?_
       rotate_left
       focus
         obtain ⟨k0, k1⟩ := hS
         go_simp
         try with_reducible rfl
         done
       simp only [Act.put, List.setIfInBounds_toArray, List.set_cons_zero, List.set_cons_succ]
       refine HT.take' (i := 7) (v := ?_) rfl (by kernel_rfl) (by decide) (by kernel_rfl) (by kernel_rfl) (fun _ _ _ h => h) (by rfl) (fun w' hS => ?_) hS1 ?_
       rotate_left
       focus
         obtain ⟨k0, k1⟩ := hS
         go_simp
         try with_reducible rfl
         done
       simp only [Act.put, List.setIfInBounds_toArray, List.set_cons_zero, List.set_cons_succ]
       refine HT.done (by kernel_rfl) ?_
       simp only [List.drop_succ_cons, List.drop_zero]
       clear hS0 hS1 e0 e1 h2
       go_wp2_with fail
       have hX7 : Below wr.heap.size wr w2 := nextX hB0 hX2
       refine (writeString_is w1.heap.size w1.heap.size _ ⟨(nmL n).toArray⟩ _ (HIb.out.keep (nextX hX7 (by go_grown))) (by rw [Lib.byteCells_length]; simp [ByteArray.size]; omega) (by have := hX7.size; go_size)).mono ?_
       rintro e w9 ⟨rfl, hbu, h9⟩
       have hB9 : Below w1.heap.size w1 w9 := Below.trans (nextW hb (nextX hX7 (by go_grown))) h9
       have HIn := Lib.hid (show IsB w1.heap.size (envL (ns.take (k + 1))) w9 by
         rw [HNx.out]
         unfold IsB
         rw [Lib.byteCells_append]
         exact .inr hbu)
       clear hbu h9 hX7 hX2 hB0
       go_wp2_with fail
       go_roundw
       case rel => exact ⟨k + 1, by omega, by go_num, HIn.out, hB9⟩
       case measure => simp [intOf] <;> omega
     · obtain rfl : k = ns.length := by omega
       have HE := Lib.hid (show IsB w1.heap.size (envL ns) wr by have := HIb.out; rwa [List.take_length] at this)
       have hBw := nextW hB hb
       have hzb := hB.size
       go_wp2_with fail
       refine (Tryd.Builder_String_any w1.heap.size w1.heap.size _ _ (HE.out.keep (by go_grown)) (by go_size)).mono ?_
       rintro e w9 ⟨rfl, h9⟩
       have hB9 : Below w.heap.size w w9 := nextW hB (Below.trans (nextX hb (by go_grown)) h9)
       go_wp2_with fail
       go_ret2
       exact ⟨rfl, hB9⟩

end Go.Proofs.YtmabngjmfjjogaaDoor
