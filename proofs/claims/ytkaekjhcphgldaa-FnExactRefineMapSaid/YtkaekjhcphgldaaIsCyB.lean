/- The program's IsCycle. -/
import Derived.Test.YtkaekjhcphgldaaIsCyA
import Derived.Test.YtkaekjhcphgldaaCyc
import Derived.Test.YtkaekjhcphgldaaVis
import Derived.Test.YtkaekjhcphgldaaHeadTail
namespace Go.Proofs.Ytkaekjhcphgldaa
open Go.RowKit

theorem setQ_pos {cs : List Q} (h : 0 < cs.length) : 0 < (setQ cs).length := by
  obtain ⟨x, hx⟩ : ∃ x, cs[0]? = some x := ⟨_, List.getElem?_eq_getElem h⟩
  exact List.length_pos_of_mem ((setQ_mem cs x).2 (List.mem_of_getElem? hx))

set_option maxHeartbeats 1600000 in
theorem areDifferent_is (cs : List Q) (g o cp : Nat) (w : World) (hv : RdQ w (.slice (some ⟨g, o, none⟩) cs.length cp) cs) (ho : OkL cs) (hn : 1 ≤ cs.length ∧ cs.length ≤ 60) :
    Calls Try.prog 92 #[.slice (some ⟨g, o, none⟩) cs.length cp] w (fun e w' => e = .returned (.bool (diffTo cs cs.length)) ∧ Below w.heap.size w w') := by
  have HV := Lib.hid hv
  have hd := diff_len ho
  have HD := Lib.hid hd
  clear hv hd
  go_enter Try.func92, Try.ntmps92
  go_wp2_with fail
  refine (clone_is cs g o _ cp w HV.out (by omega) (by rintro rfl; simp at hn)).mono ?_
  rintro e w1 ⟨r1, rfl, os1, hb1⟩
  have B1 : Below w.heap.size w w1 := hb1
  have HO := Lib.hid os1
  clear os1 hb1
  go_wp2_with fail
  refine (rising_is w.heap.size _ _ _ HO.out ho (by omega)).mono ?_
  rintro e w4 ⟨r4, rfl, os4, he, hb4⟩
  have B4 : Below w.heap.size w w4 := by
    obtain ⟨k, hk, hk2⟩ : ∃ k, w.heap.size ≤ k ∧ ∀ b, r1.ownBlock = some b → b = k := by
      rcases hv : r1.ownBlock with _ | b
      · exact ⟨w.heap.size, Nat.le_refl _, fun b hb => by simp at hb⟩
      · exact ⟨b, (World.ownsRow.lt HO.out b hv).1, fun c hc => by simpa using hc.symm⟩
    exact But.below B1 (hb4 k hk2) hk B1.size
  obtain ⟨g1, cap1, rfl, hc1, hc2, -⟩ := os4.lit (n := (setQ cs).length) rfl (setQ_pos (by omega))
  clear os4 hb4 he
  have HB4 := Lib.hid B4
  clear B4 B1
  go_wp2_with fail
  go_ret
  refine ⟨ret_bool ?_, HB4.out⟩
  rw [← HD.out]
  rw [Bool.eq_iff_iff]
  simp
  try omega

def RelIc (f : List Pt) (cs : List Q) (gc : Nat) (W0 : World) (s i : Value) (wr : World) : Prop :=
  ∃ k : Nat, k ≤ cs.length ∧ i = .int .i64 k ∧ s = .bool (eqTo f cs k && diffTo cs cs.length) ∧ Slot wr gc 0 (.bool (!fineC f cs k)) ∧ But gc W0 wr

set_option maxRecDepth 100000 in
set_option maxHeartbeats 6400000 in
theorem isCycle_is (f : List Pt) (cs : List Q) (vf : Value) (g o cp : Nat) (a b : Bool) (hl : cycRes f cs = (a, b)) (w : World) (hf : RdP w vf f) (hc : RdQ w (.slice (some ⟨g, o, none⟩) cs.length cp) cs) (mf : okMap f = true) (hn : 1 ≤ cs.length ∧ cs.length ≤ 60) (hu : ∀ x ∈ cs, unitQ x.1 x.2 = true) :
    Calls Try.prog 59 #[vf, .slice (some ⟨g, o, none⟩) cs.length cp] w (fun e w' => e = .returned (.tuple #[.bool a, .bool b]) ∧ Below w.heap.size w w') := by
  have HF := Lib.hid hf
  have HL := Lib.hid hl
  have HMF := Lib.hid mf
  have HUn := Lib.hid hu
  have HCs := Lib.hid hc
  have HOk := Lib.hid (show OkL cs from fun x hx => unitQ_ok (hu x hx))
  have HOf := Lib.hid (fun (x : Nat) (hx : w.heap.size ≤ x) => hf.old (okMap_ne mf) (g := x) hx)
  have hcell : g < w.heap.size ∧ ∀ i q, cs[i]? = some q → w.cell? ⟨g, o + i * 2, none⟩ = some (.int .i64 q.1) ∧ w.cell? ⟨g, o + i * 2 + 1, none⟩ = some (.int .i64 q.2) := by
    obtain ⟨A', c', he, h1, h2, h3⟩ := hc
    simp only [Value.slice.injEq] at he
    obtain ⟨rfl, -, rfl⟩ := he
    obtain ⟨g', o', he, hg, hcc⟩ := h3 (by rintro rfl; simp at hn)
    simp only [Option.some.injEq, Addr.mk.injEq, and_true] at he
    obtain ⟨rfl, rfl⟩ := he
    exact ⟨hg, hcc⟩
  have hgw := hcell.1
  have HC := Lib.hid hcell.2
  clear hf hl mf hu hc hcell
  go_enter Try.func59, Try.ntmps59
  go_wp2_with fail
  refine (areDifferent_is cs g o cp _ (HCs.out.keep (by go_grown)) HOk.out hn).mono ?_
  rintro e w1 ⟨rfl, hb⟩
  have sc : Slot w1 w.heap.size 0 (.bool false) := slotB hb ⟨by simp [go_sem], by simp [go_sem]⟩
  have hB : Below w.heap.size w w1 := nextX (by go_grown) hb
  have SC := Lib.hid sc
  have zc := lt_of_cell sc.1
  clear hb sc
  generalize hgc : w.heap.size = gc at *
  go_wp2_with fail
  go_name_world W0 hW
  rw [hW] at hB SC zc
  clear hW
  go_loopw [7, 14] (fun s i wr => RelIc f cs gc W0 s i wr) (fun _ i _ => cs.length - (intOf i).toNat)
  case atStart => exact ⟨0, Nat.zero_le _, rfl, by unfold eqTo; simp, by unfold fineC; simpa using SC.out, But.refl _ _⟩
  case round =>
    obtain ⟨k, hk2, rfl, rfl, hsl, hbu⟩ := hrel
    have HSl := Lib.hid hsl
    have hzr := hbu.size
    have hBr : Below gc w wr := But.below hB hbu (Nat.le_refl _) (by have := hB.size; omega)
    have hBr' : Below w.heap.size w wr := by rw [hgc]; exact hBr
    clear hsl
    by_cases hlt : k < cs.length
    · have hx := List.getElem?_eq_getElem hlt
      generalize cs[k] = x at *
      have hj : (k + 1) % cs.length < cs.length := Nat.mod_lt _ (by omega)
      have hp := List.getElem?_eq_getElem hj
      have hne := eqTo_next (f := f) hx
      have hnf := fineC_next (f := f) hx
      obtain ⟨c0, c1⟩ := HC.out k _ hx
      obtain ⟨d0, d1⟩ := HC.out _ _ hp
      unfold nextQ at hne
      rw [hp] at hne
      generalize cs[(k + 1) % cs.length] = p at *
      have ux := HUn.out _ (List.mem_of_getElem? hx)
      obtain ⟨x1, x2⟩ := x
      obtain ⟨p1, p2⟩ := p
      obtain ⟨⟨⟨y1, y2⟩, ty⟩, hy⟩ : ∃ r, valQ f (x1, x2) = r := ⟨_, rfl⟩
      simp only [hy, Option.some.injEq] at hne hnf
      have HVf := Lib.hid (fun W bd (h1 : Slot W gc 0 (.bool bd)) (h2 : RdP W vf f) => value_is f vf x1 x2 y1 y2 ty bd _ gc W h1 h2 (HOf.out gc (by omega)) HMF.out ux hy rfl)
      have HNe := Lib.hid hne
      have HNf := Lib.hid hnf
      replace c0 := (hBr.cell (p := ⟨g, _, none⟩) hgw).trans c0
      replace c1 := (hBr.cell (p := ⟨g, _, none⟩) hgw).trans c1
      replace d0 := (hBr.cell (p := ⟨g, _, none⟩) hgw).trans d0
      replace d1 := (hBr.cell (p := ⟨g, _, none⟩) hgw).trans d1
      have hjt : Int.tmod ((k : Int) + 1) (cs.length : Int) = (((k + 1) % cs.length : Nat) : Int) := by rw [Int.tmod_eq_emod_of_nonneg (by omega)]; simp
      generalize (k + 1) % cs.length = j at *
      have b0 : (0 : Int) ≤ (k : Int) := by omega
      have b1 : (k : Int) < (cs.length : Int) := by omega
      have b2 : (j : Int) < (cs.length : Int) := by omega
      have b3 : (0 : Int) ≤ (j : Int) := by omega
      have b5 : (cs.length : Int) ≠ 0 := by omega
      have b6 : cs ≠ [] := by rintro rfl; simp at hn
      have v2 : IntKind.i64.wrap ((k : Int) + 1) = (k : Int) + 1 := IntWalk.i64_in _ (by omega)
      have v3 : IntKind.i64.wrap (k : Int) = (k : Int) := IntWalk.i64_in _ (by omega)
      have v4 : IntKind.i64.wrap (j : Int) = (j : Int) := IntWalk.i64_in _ (by omega)
      clear hx hp ux hy hne hnf
      go_wp2_with fail
      go_name_world W4 hW4
      have hX4 : Below wr.heap.size wr W4 := by rw [← hW4]; go_grown
      have x0 : W4.cell? ⟨wr.heap.size, 0, none⟩ = some (.int .i64 x1) := by rw [← hW4]; simp [go_sem]
      have x1' : W4.cell? ⟨wr.heap.size, 1, none⟩ = some (.int .i64 x2) := by rw [← hW4]; simp [go_sem]
      replace d0 := cellB hX4 d0
      replace d1 := cellB hX4 d1
      have G4 := Lib.hid (slotB hX4 HSl.out)
      have hbu4 : But gc W0 W4 := hbu.trans (But.of_below hX4 (Nat.le_refl _))
      have hB4 : Below w.heap.size w W4 := nextW hBr' hX4
      have hz5 : wr.heap.size < W4.heap.size := lt_of_cell x0
      clear hW4 hX4 c0 c1
      rcases eq_ways y1 y2 p1 p2 with ⟨e1, e2⟩ | e1 | ⟨e1, e2⟩
      · have hf2 : eqTo f cs (k + 1) = eqTo f cs k := by
          rw [HNe.out]
          simp only [beq_iff_eq] at e1 e2
          rw [e1, e2]
          simp
        have HF2 := Lib.hid hf2
        clear hf2
        refine wp_region_HT (S := fun w' => w'.cell? ⟨wr.heap.size, 0, none⟩ = some (.int .i64 x1) ∧ w'.cell? ⟨wr.heap.size, 1, none⟩ = some (.int .i64 x2) ∧ w'.cell? ⟨g, o + j * 2, none⟩ = some (.int .i64 p1) ∧ w'.cell? ⟨g, o + j * 2 + 1, none⟩ = some (.int .i64 p2)) 11 (by kernel_rfl) (by kernel_rfl) ?_
        have hS0 : (fun w' : World => w'.cell? ⟨wr.heap.size, 0, none⟩ = some (.int .i64 x1) ∧ w'.cell? ⟨wr.heap.size, 1, none⟩ = some (.int .i64 x2) ∧ w'.cell? ⟨g, o + j * 2, none⟩ = some (.int .i64 p1) ∧ w'.cell? ⟨g, o + j * 2 + 1, none⟩ = some (.int .i64 p2)) _ := ⟨x0, x1', d0, d1⟩
        refine HT.take' (i := 0) (v := ?_) rfl (by kernel_rfl) (by decide) (by kernel_rfl) (by kernel_rfl) (fun _ _ _ h => h) (by rfl) (fun w' hS => ?_) hS0 ?_
        rotate_left
        focus
          obtain ⟨k0, k1, k2, k3⟩ := hS
          go_simp
          try with_reducible rfl
          done
        simp only [Act.put, List.setIfInBounds_toArray, List.set_cons_zero, List.set_cons_succ]
        refine HT.take' (i := 1) (v := ?_) rfl (by kernel_rfl) (by decide) (by kernel_rfl) (by kernel_rfl) (fun _ _ _ h => h) (by rfl) (fun w' hS => ?_) hS0 ?_
        rotate_left
        focus
          obtain ⟨k0, k1, k2, k3⟩ := hS
          go_simp
          try with_reducible rfl
          done
        simp only [Act.put, List.setIfInBounds_toArray, List.set_cons_zero, List.set_cons_succ]
        refine HT.take' (i := 3) (v := ?_) rfl (by kernel_rfl) (by decide) (by kernel_rfl) (by kernel_rfl) (fun _ _ _ h => h) (by rfl) (fun w' hS => ?_) hS0 ?_
        rotate_left
        focus
          obtain ⟨k0, k1, k2, k3⟩ := hS
          go_simp
          try with_reducible rfl
          done
        simp only [Act.put, List.setIfInBounds_toArray, List.set_cons_zero, List.set_cons_succ]
        refine HT.take' (i := 4) (v := ?_) rfl (by kernel_rfl) (by decide) (by kernel_rfl) (by kernel_rfl) (fun _ _ _ h => h) (by rfl) (fun w' hS => ?_) hS0 ?_
        rotate_left
        focus
          obtain ⟨k0, k1, k2, k3⟩ := hS
          go_simp
          try with_reducible rfl
          done
        simp only [Act.put, List.setIfInBounds_toArray, List.set_cons_zero, List.set_cons_succ]
        refine HT.take' (i := 5) (v := ?_) rfl (by kernel_rfl) (by decide) (by kernel_rfl) (by kernel_rfl) (fun _ _ _ h => h) (by rfl) (fun w' hS => ?_) hS0 ?_
        rotate_left
        focus
          obtain ⟨k0, k1, k2, k3⟩ := hS
          go_simp
          try with_reducible rfl
          done
        simp only [Act.put, List.setIfInBounds_toArray, List.set_cons_zero, List.set_cons_succ]
        refine HT.take' (i := 6) (v := ?_) rfl (by kernel_rfl) (by decide) (by kernel_rfl) (by kernel_rfl) (fun _ _ _ h => h) (by rfl) (fun w' hS => ?_) hS0 ?_
        rotate_left
        focus
          obtain ⟨k0, k1, k2, k3⟩ := hS
          go_simp
          try with_reducible rfl
          done
        simp only [Act.put, List.setIfInBounds_toArray, List.set_cons_zero, List.set_cons_succ]
        refine HT.take' (i := 7) (v := ?_) rfl (by kernel_rfl) (by decide) (by kernel_rfl) (by kernel_rfl) (fun _ _ _ h => h) (by rfl) (fun w' hS => ?_) hS0 ?_
        rotate_left
        focus
          obtain ⟨k0, k1, k2, k3⟩ := hS
          go_simp
          try with_reducible rfl
          done
        simp only [Act.put, List.setIfInBounds_toArray, List.set_cons_zero, List.set_cons_succ]
        refine HT.take' (i := 8) (v := ?_) rfl (by kernel_rfl) (by decide) (by kernel_rfl) (by kernel_rfl) (fun _ _ _ h => h) (by rfl) (fun w' hS => ?_) hS0 ?_
        rotate_left
        focus
          obtain ⟨k0, k1, k2, k3⟩ := hS
          go_simp
          try with_reducible rfl
          done
        simp only [Act.put, List.setIfInBounds_toArray, List.set_cons_zero, List.set_cons_succ]
        refine HT.take' (i := 9) (v := ?_) rfl (by kernel_rfl) (by decide) (by kernel_rfl) (by kernel_rfl) (fun _ _ _ h => h) (by rfl) (fun w' hS => ?_) hS0 ?_
        rotate_left
        focus
          obtain ⟨k0, k1, k2, k3⟩ := hS
          go_simp
          try with_reducible rfl
          done
        simp only [Act.put, List.setIfInBounds_toArray, List.set_cons_zero, List.set_cons_succ]
        refine HT.take' (i := 10) (v := ?_) rfl (by kernel_rfl) (by decide) (by kernel_rfl) (by kernel_rfl) (fun _ _ _ h => h) (by rfl) (fun w' hS => ?_) hS0 ?_
        rotate_left
        focus
          obtain ⟨k0, k1, k2, k3⟩ := hS
          go_simp
          try with_reducible rfl
          done
        simp only [Act.put, List.setIfInBounds_toArray, List.set_cons_zero, List.set_cons_succ]
        refine HT.one' (i := 2) rfl (by decide) (by kernel_rfl) (fun K hK => ?_)
        go_simp
        refine (HVf.out _ _ (slotB (by go_grown) G4.out) (HF.out.keep (nextX hB4 (by go_grown)))).mono ?_
        rintro e w5 ⟨rfl, g5, k5'⟩
        have hk5 : But gc W4 w5 := (But.of_below (by go_grown : Below W4.heap.size W4 _) (Nat.le_refl _)).trans k5'
        go_wp2_with fail
        have hS1 : (fun w' : World => w'.cell? ⟨wr.heap.size, 0, none⟩ = some (.int .i64 x1) ∧ w'.cell? ⟨wr.heap.size, 1, none⟩ = some (.int .i64 x2) ∧ w'.cell? ⟨g, o + j * 2, none⟩ = some (.int .i64 p1) ∧ w'.cell? ⟨g, o + j * 2 + 1, none⟩ = some (.int .i64 p2)) _ := ⟨cellU hk5 (by omega) x0, cellU hk5 (by omega) x1', cellU hk5 (by omega) d0, cellU hk5 (by omega) d1⟩
        refine hK _ _ hS1 ?_
        clear hK
        try simp only [Act.put, List.setIfInBounds_toArray, List.set_cons_zero, List.set_cons_succ]
        refine HT.done (by kernel_rfl) ?_
        simp only [List.drop_succ_cons, List.drop_zero]
        have HBu5 := Lib.hid (hbu4.trans hk5)
        have HG5 := Lib.hid g5
        clear hS0 hS1 k5' hk5 g5 x0 x1' d0 d1 hbu4 G4
        go_wp2_with fail
        go_roundw
        case rel => exact ⟨k + 1, by omega, by go_num, by rw [HF2.out]; (try (first | rfl | (simp; done))), by rw [HNf.out]; have := HG5.out; cases h1 : fineC f cs k <;> cases ty <;> simpa [h1] using this, HBu5.out⟩
        case measure => simp [intOf]; omega
      · have hf2 : eqTo f cs (k + 1) = false := by
          rw [HNe.out, decide_eq_false (by intro h; cases h; simp at e1)]
          simp
        have HF2 := Lib.hid hf2
        clear hf2
        refine wp_region_HT (S := fun w' => w'.cell? ⟨wr.heap.size, 0, none⟩ = some (.int .i64 x1) ∧ w'.cell? ⟨wr.heap.size, 1, none⟩ = some (.int .i64 x2) ∧ w'.cell? ⟨g, o + j * 2, none⟩ = some (.int .i64 p1) ∧ w'.cell? ⟨g, o + j * 2 + 1, none⟩ = some (.int .i64 p2)) 11 (by kernel_rfl) (by kernel_rfl) ?_
        have hS0 : (fun w' : World => w'.cell? ⟨wr.heap.size, 0, none⟩ = some (.int .i64 x1) ∧ w'.cell? ⟨wr.heap.size, 1, none⟩ = some (.int .i64 x2) ∧ w'.cell? ⟨g, o + j * 2, none⟩ = some (.int .i64 p1) ∧ w'.cell? ⟨g, o + j * 2 + 1, none⟩ = some (.int .i64 p2)) _ := ⟨x0, x1', d0, d1⟩
        refine HT.take' (i := 0) (v := ?_) rfl (by kernel_rfl) (by decide) (by kernel_rfl) (by kernel_rfl) (fun _ _ _ h => h) (by rfl) (fun w' hS => ?_) hS0 ?_
        rotate_left
        focus
          obtain ⟨k0, k1, k2, k3⟩ := hS
          go_simp
          try with_reducible rfl
          done
        simp only [Act.put, List.setIfInBounds_toArray, List.set_cons_zero, List.set_cons_succ]
        refine HT.take' (i := 1) (v := ?_) rfl (by kernel_rfl) (by decide) (by kernel_rfl) (by kernel_rfl) (fun _ _ _ h => h) (by rfl) (fun w' hS => ?_) hS0 ?_
        rotate_left
        focus
          obtain ⟨k0, k1, k2, k3⟩ := hS
          go_simp
          try with_reducible rfl
          done
        simp only [Act.put, List.setIfInBounds_toArray, List.set_cons_zero, List.set_cons_succ]
        refine HT.take' (i := 3) (v := ?_) rfl (by kernel_rfl) (by decide) (by kernel_rfl) (by kernel_rfl) (fun _ _ _ h => h) (by rfl) (fun w' hS => ?_) hS0 ?_
        rotate_left
        focus
          obtain ⟨k0, k1, k2, k3⟩ := hS
          go_simp
          try with_reducible rfl
          done
        simp only [Act.put, List.setIfInBounds_toArray, List.set_cons_zero, List.set_cons_succ]
        refine HT.take' (i := 4) (v := ?_) rfl (by kernel_rfl) (by decide) (by kernel_rfl) (by kernel_rfl) (fun _ _ _ h => h) (by rfl) (fun w' hS => ?_) hS0 ?_
        rotate_left
        focus
          obtain ⟨k0, k1, k2, k3⟩ := hS
          go_simp
          try with_reducible rfl
          done
        simp only [Act.put, List.setIfInBounds_toArray, List.set_cons_zero, List.set_cons_succ]
        refine HT.take' (i := 5) (v := ?_) rfl (by kernel_rfl) (by decide) (by kernel_rfl) (by kernel_rfl) (fun _ _ _ h => h) (by rfl) (fun w' hS => ?_) hS0 ?_
        rotate_left
        focus
          obtain ⟨k0, k1, k2, k3⟩ := hS
          go_simp
          try with_reducible rfl
          done
        simp only [Act.put, List.setIfInBounds_toArray, List.set_cons_zero, List.set_cons_succ]
        refine HT.take' (i := 6) (v := ?_) rfl (by kernel_rfl) (by decide) (by kernel_rfl) (by kernel_rfl) (fun _ _ _ h => h) (by rfl) (fun w' hS => ?_) hS0 ?_
        rotate_left
        focus
          obtain ⟨k0, k1, k2, k3⟩ := hS
          go_simp
          try with_reducible rfl
          done
        simp only [Act.put, List.setIfInBounds_toArray, List.set_cons_zero, List.set_cons_succ]
        refine HT.take' (i := 7) (v := ?_) rfl (by kernel_rfl) (by decide) (by kernel_rfl) (by kernel_rfl) (fun _ _ _ h => h) (by rfl) (fun w' hS => ?_) hS0 ?_
        rotate_left
        focus
          obtain ⟨k0, k1, k2, k3⟩ := hS
          go_simp
          try with_reducible rfl
          done
        simp only [Act.put, List.setIfInBounds_toArray, List.set_cons_zero, List.set_cons_succ]
        refine HT.take' (i := 8) (v := ?_) rfl (by kernel_rfl) (by decide) (by kernel_rfl) (by kernel_rfl) (fun _ _ _ h => h) (by rfl) (fun w' hS => ?_) hS0 ?_
        rotate_left
        focus
          obtain ⟨k0, k1, k2, k3⟩ := hS
          go_simp
          try with_reducible rfl
          done
        simp only [Act.put, List.setIfInBounds_toArray, List.set_cons_zero, List.set_cons_succ]
        refine HT.take' (i := 9) (v := ?_) rfl (by kernel_rfl) (by decide) (by kernel_rfl) (by kernel_rfl) (fun _ _ _ h => h) (by rfl) (fun w' hS => ?_) hS0 ?_
        rotate_left
        focus
          obtain ⟨k0, k1, k2, k3⟩ := hS
          go_simp
          try with_reducible rfl
          done
        simp only [Act.put, List.setIfInBounds_toArray, List.set_cons_zero, List.set_cons_succ]
        refine HT.take' (i := 10) (v := ?_) rfl (by kernel_rfl) (by decide) (by kernel_rfl) (by kernel_rfl) (fun _ _ _ h => h) (by rfl) (fun w' hS => ?_) hS0 ?_
        rotate_left
        focus
          obtain ⟨k0, k1, k2, k3⟩ := hS
          go_simp
          try with_reducible rfl
          done
        simp only [Act.put, List.setIfInBounds_toArray, List.set_cons_zero, List.set_cons_succ]
        refine HT.one' (i := 2) rfl (by decide) (by kernel_rfl) (fun K hK => ?_)
        go_simp
        refine (HVf.out _ _ (slotB (by go_grown) G4.out) (HF.out.keep (nextX hB4 (by go_grown)))).mono ?_
        rintro e w5 ⟨rfl, g5, k5'⟩
        have hk5 : But gc W4 w5 := (But.of_below (by go_grown : Below W4.heap.size W4 _) (Nat.le_refl _)).trans k5'
        go_wp2_with fail
        have hS1 : (fun w' : World => w'.cell? ⟨wr.heap.size, 0, none⟩ = some (.int .i64 x1) ∧ w'.cell? ⟨wr.heap.size, 1, none⟩ = some (.int .i64 x2) ∧ w'.cell? ⟨g, o + j * 2, none⟩ = some (.int .i64 p1) ∧ w'.cell? ⟨g, o + j * 2 + 1, none⟩ = some (.int .i64 p2)) _ := ⟨cellU hk5 (by omega) x0, cellU hk5 (by omega) x1', cellU hk5 (by omega) d0, cellU hk5 (by omega) d1⟩
        refine hK _ _ hS1 ?_
        clear hK
        try simp only [Act.put, List.setIfInBounds_toArray, List.set_cons_zero, List.set_cons_succ]
        refine HT.done (by kernel_rfl) ?_
        simp only [List.drop_succ_cons, List.drop_zero]
        have HBu5 := Lib.hid (hbu4.trans hk5)
        have HG5 := Lib.hid g5
        clear hS0 hS1 k5' hk5 g5 x0 x1' d0 d1 hbu4 G4
        go_wp2_with fail
        go_roundw
        case rel => exact ⟨k + 1, by omega, by go_num, by rw [HF2.out]; (try (first | rfl | (simp; done))), by rw [HNf.out]; have := HG5.out; cases h1 : fineC f cs k <;> cases ty <;> simpa [h1] using this, HBu5.out⟩
        case measure => simp [intOf]; omega
      · have hf2 : eqTo f cs (k + 1) = false := by
          rw [HNe.out, decide_eq_false (by intro h; cases h; simp at e2)]
          simp
        have HF2 := Lib.hid hf2
        clear hf2
        refine wp_region_HT (S := fun w' => w'.cell? ⟨wr.heap.size, 0, none⟩ = some (.int .i64 x1) ∧ w'.cell? ⟨wr.heap.size, 1, none⟩ = some (.int .i64 x2) ∧ w'.cell? ⟨g, o + j * 2, none⟩ = some (.int .i64 p1) ∧ w'.cell? ⟨g, o + j * 2 + 1, none⟩ = some (.int .i64 p2)) 11 (by kernel_rfl) (by kernel_rfl) ?_
        have hS0 : (fun w' : World => w'.cell? ⟨wr.heap.size, 0, none⟩ = some (.int .i64 x1) ∧ w'.cell? ⟨wr.heap.size, 1, none⟩ = some (.int .i64 x2) ∧ w'.cell? ⟨g, o + j * 2, none⟩ = some (.int .i64 p1) ∧ w'.cell? ⟨g, o + j * 2 + 1, none⟩ = some (.int .i64 p2)) _ := ⟨x0, x1', d0, d1⟩
        refine HT.take' (i := 0) (v := ?_) rfl (by kernel_rfl) (by decide) (by kernel_rfl) (by kernel_rfl) (fun _ _ _ h => h) (by rfl) (fun w' hS => ?_) hS0 ?_
        rotate_left
        focus
          obtain ⟨k0, k1, k2, k3⟩ := hS
          go_simp
          try with_reducible rfl
          done
        simp only [Act.put, List.setIfInBounds_toArray, List.set_cons_zero, List.set_cons_succ]
        refine HT.take' (i := 1) (v := ?_) rfl (by kernel_rfl) (by decide) (by kernel_rfl) (by kernel_rfl) (fun _ _ _ h => h) (by rfl) (fun w' hS => ?_) hS0 ?_
        rotate_left
        focus
          obtain ⟨k0, k1, k2, k3⟩ := hS
          go_simp
          try with_reducible rfl
          done
        simp only [Act.put, List.setIfInBounds_toArray, List.set_cons_zero, List.set_cons_succ]
        refine HT.take' (i := 3) (v := ?_) rfl (by kernel_rfl) (by decide) (by kernel_rfl) (by kernel_rfl) (fun _ _ _ h => h) (by rfl) (fun w' hS => ?_) hS0 ?_
        rotate_left
        focus
          obtain ⟨k0, k1, k2, k3⟩ := hS
          go_simp
          try with_reducible rfl
          done
        simp only [Act.put, List.setIfInBounds_toArray, List.set_cons_zero, List.set_cons_succ]
        refine HT.take' (i := 4) (v := ?_) rfl (by kernel_rfl) (by decide) (by kernel_rfl) (by kernel_rfl) (fun _ _ _ h => h) (by rfl) (fun w' hS => ?_) hS0 ?_
        rotate_left
        focus
          obtain ⟨k0, k1, k2, k3⟩ := hS
          go_simp
          try with_reducible rfl
          done
        simp only [Act.put, List.setIfInBounds_toArray, List.set_cons_zero, List.set_cons_succ]
        refine HT.take' (i := 5) (v := ?_) rfl (by kernel_rfl) (by decide) (by kernel_rfl) (by kernel_rfl) (fun _ _ _ h => h) (by rfl) (fun w' hS => ?_) hS0 ?_
        rotate_left
        focus
          obtain ⟨k0, k1, k2, k3⟩ := hS
          go_simp
          try with_reducible rfl
          done
        simp only [Act.put, List.setIfInBounds_toArray, List.set_cons_zero, List.set_cons_succ]
        refine HT.take' (i := 6) (v := ?_) rfl (by kernel_rfl) (by decide) (by kernel_rfl) (by kernel_rfl) (fun _ _ _ h => h) (by rfl) (fun w' hS => ?_) hS0 ?_
        rotate_left
        focus
          obtain ⟨k0, k1, k2, k3⟩ := hS
          go_simp
          try with_reducible rfl
          done
        simp only [Act.put, List.setIfInBounds_toArray, List.set_cons_zero, List.set_cons_succ]
        refine HT.take' (i := 7) (v := ?_) rfl (by kernel_rfl) (by decide) (by kernel_rfl) (by kernel_rfl) (fun _ _ _ h => h) (by rfl) (fun w' hS => ?_) hS0 ?_
        rotate_left
        focus
          obtain ⟨k0, k1, k2, k3⟩ := hS
          go_simp
          try with_reducible rfl
          done
        simp only [Act.put, List.setIfInBounds_toArray, List.set_cons_zero, List.set_cons_succ]
        refine HT.take' (i := 8) (v := ?_) rfl (by kernel_rfl) (by decide) (by kernel_rfl) (by kernel_rfl) (fun _ _ _ h => h) (by rfl) (fun w' hS => ?_) hS0 ?_
        rotate_left
        focus
          obtain ⟨k0, k1, k2, k3⟩ := hS
          go_simp
          try with_reducible rfl
          done
        simp only [Act.put, List.setIfInBounds_toArray, List.set_cons_zero, List.set_cons_succ]
        refine HT.take' (i := 9) (v := ?_) rfl (by kernel_rfl) (by decide) (by kernel_rfl) (by kernel_rfl) (fun _ _ _ h => h) (by rfl) (fun w' hS => ?_) hS0 ?_
        rotate_left
        focus
          obtain ⟨k0, k1, k2, k3⟩ := hS
          go_simp
          try with_reducible rfl
          done
        simp only [Act.put, List.setIfInBounds_toArray, List.set_cons_zero, List.set_cons_succ]
        refine HT.take' (i := 10) (v := ?_) rfl (by kernel_rfl) (by decide) (by kernel_rfl) (by kernel_rfl) (fun _ _ _ h => h) (by rfl) (fun w' hS => ?_) hS0 ?_
        rotate_left
        focus
          obtain ⟨k0, k1, k2, k3⟩ := hS
          go_simp
          try with_reducible rfl
          done
        simp only [Act.put, List.setIfInBounds_toArray, List.set_cons_zero, List.set_cons_succ]
        refine HT.one' (i := 2) rfl (by decide) (by kernel_rfl) (fun K hK => ?_)
        go_simp
        refine (HVf.out _ _ (slotB (by go_grown) G4.out) (HF.out.keep (nextX hB4 (by go_grown)))).mono ?_
        rintro e w5 ⟨rfl, g5, k5'⟩
        have hk5 : But gc W4 w5 := (But.of_below (by go_grown : Below W4.heap.size W4 _) (Nat.le_refl _)).trans k5'
        go_wp2_with fail
        have hS1 : (fun w' : World => w'.cell? ⟨wr.heap.size, 0, none⟩ = some (.int .i64 x1) ∧ w'.cell? ⟨wr.heap.size, 1, none⟩ = some (.int .i64 x2) ∧ w'.cell? ⟨g, o + j * 2, none⟩ = some (.int .i64 p1) ∧ w'.cell? ⟨g, o + j * 2 + 1, none⟩ = some (.int .i64 p2)) _ := ⟨cellU hk5 (by omega) x0, cellU hk5 (by omega) x1', cellU hk5 (by omega) d0, cellU hk5 (by omega) d1⟩
        refine hK _ _ hS1 ?_
        clear hK
        try simp only [Act.put, List.setIfInBounds_toArray, List.set_cons_zero, List.set_cons_succ]
        refine HT.done (by kernel_rfl) ?_
        simp only [List.drop_succ_cons, List.drop_zero]
        have HBu5 := Lib.hid (hbu4.trans hk5)
        have HG5 := Lib.hid g5
        clear hS0 hS1 k5' hk5 g5 x0 x1' d0 d1 hbu4 G4
        go_wp2_with fail
        go_roundw
        case rel => exact ⟨k + 1, by omega, by go_num, by rw [HF2.out]; (try (first | rfl | (simp; done))), by rw [HNf.out]; have := HG5.out; cases h1 : fineC f cs k <;> cases ty <;> simpa [h1] using this, HBu5.out⟩
        case measure => simp [intOf]; omega
    · obtain rfl : k = cs.length := by omega
      have hcell := HSl.out.1
      rcases hfa : fineC f cs cs.length with _ | _
      · obtain ⟨rfl, rfl⟩ : false = a ∧ false = b := by have := HL.out; unfold cycRes at this; rw [hfa] at this; exact Prod.mk.inj this
        rw [hfa] at hcell
        simp only [Bool.not_false] at hcell
        rcases hq : (eqTo f cs cs.length && diffTo cs cs.length) with _ | _
        all_goals
          go_wp2_with fail
          go_quiet (fail)
          go_wp2_with fail
          go_ret2
          exact ⟨rfl, below_drewN hBr' _⟩
      · obtain ⟨rfl, rfl⟩ : (eqTo f cs cs.length && diffTo cs cs.length) = a ∧ true = b := by have := HL.out; unfold cycRes at this; rw [if_pos hfa] at this; exact Prod.mk.inj this
        rw [hfa] at hcell
        simp only [Bool.not_true] at hcell
        rcases hq : (eqTo f cs cs.length && diffTo cs cs.length) with _ | _
        all_goals
          go_wp2_with fail
          go_quiet (fail)
          go_wp2_with fail
          go_ret2
          exact ⟨by rw [hq]; (try (first | rfl | (simp; done))), below_drewN hBr' _⟩

set_option maxHeartbeats 1600000 in
theorem iIsCycle_is (f : List Pt) (cs : List Q) (vf vc : Value) (a b : Bool) (hl : isCycQ f cs = (a, b)) (w : World) (hf : RdP w vf f) (hc : RdQ w vc cs) (hn : f.length ≤ 1048576) (hk : cs.length ≤ 1048576) :
    Calls Try.prog 29 #[vf, vc] w (fun e w' => e = .returned (.tuple #[.bool a, .bool b]) ∧ Below w.heap.size w w') := by
  have HF := Lib.hid hf
  rcases hm : okMap f with _ | _
  · obtain ⟨rfl, rfl⟩ := isCyc_no hl (ask_no1 hm)
    have HM := Lib.hid hm
    clear hf hc hl hm
    go_enter Try.func29, Try.ntmps29
    go_wp2_with fail
    refine (isMap_is f _ false _ (HF.out.keep (by go_grown)) hn HM.out).mono ?_
    rintro e w1 ⟨rfl, hb⟩
    go_wp2_with fail
    go_ret2
    exact ⟨rfl, hb⟩
  · have HM := Lib.hid hm
    have HC0 := Lib.hid hc
    obtain ⟨A, cc, rfl, hcl, hcm, hcell⟩ := hc
    unfold maxLen at hcm
    by_cases hlen : 1 ≤ cs.length ∧ cs.length ≤ 60
    · obtain ⟨g, o, rfl, -, -⟩ := hcell (by rintro rfl; simp at hlen)
      obtain ⟨u, hu⟩ : ∃ u, cs.all (fun q => unitQ q.1 q.2) = u := ⟨_, rfl⟩
      have HU := Lib.hid hu
      have HL := Lib.hid hl
      clear hf hl hm hcell hu
      go_enter Try.func29, Try.ntmps29
      go_wp2_with fail
      refine (isMap_is f _ true _ (HF.out.keep (by go_grown)) hn HM.out).mono ?_
      rintro e w1 ⟨rfl, hb⟩
      have hB : Below w.heap.size w w1 := hb
      clear hb
      go_wp2_with fail
      refine (within_yes _ 1 60 (by omega) (by omega) _).mono ?_
      rintro e w2 ⟨rfl, h2⟩
      subst h2
      go_wp2_with fail
      refine (areUnits_is cs _ u _ (HC0.out.keep (nextX hB (by go_grown))) HU.out).mono ?_
      rintro e w3 ⟨rfl, hb⟩
      replace hB := nextX hB (nextX (by go_grown) hb)
      clear hb
      rcases u with _ | _
      · have hask : cycAsk f cs = false := by unfold cycAsk; rw [HU.out, Bool.and_false]
        obtain ⟨rfl, rfl⟩ := isCyc_no HL.out hask
        go_wp2_with fail
        go_ret2
        exact ⟨rfl, hB⟩
      · have hask : cycAsk f cs = true := by unfold cycAsk; rw [HM.out, decide_eq_true hlen, HU.out]; rfl
        have hres : cycRes f cs = (a, b) := by have := HL.out; unfold isCycQ at this; rwa [if_pos hask] at this
        have hall : ∀ x ∈ cs, unitQ x.1 x.2 = true := fun x hx => by have := List.all_eq_true.1 HU.out x hx; exact this
        go_wp2_with fail
        refine (isCycle_is f cs _ g o cc a b hres _ (HF.out.keep (nextX hB (by go_grown))) (HC0.out.keep (nextX hB (by go_grown))) HM.out hlen hall).mono ?_
        rintro e w5 ⟨rfl, hb5⟩
        have hB6 : Below w.heap.size w w5 := nextX hB (nextX (by go_grown) hb5)
        go_wp2_with fail
        go_ret2
        exact ⟨rfl, hB6⟩
    · obtain ⟨rfl, rfl⟩ := isCyc_no hl (ask_no2 hlen)
      clear hf hl hm hcell
      go_enter Try.func29, Try.ntmps29
      go_wp2_with fail
      refine (isMap_is f _ true _ (HF.out.keep (by go_grown)) hn HM.out).mono ?_
      rintro e w1 ⟨rfl, hb⟩
      have hB : Below w.heap.size w w1 := hb
      clear hb
      go_wp2_with fail
      refine (within_no _ 1 60 (by omega) _).mono ?_
      rintro e w2 ⟨rfl, h2⟩
      subst h2
      go_wp2_with fail
      go_ret2
      exact ⟨rfl, hB⟩

end Go.Proofs.Ytkaekjhcphgldaa
