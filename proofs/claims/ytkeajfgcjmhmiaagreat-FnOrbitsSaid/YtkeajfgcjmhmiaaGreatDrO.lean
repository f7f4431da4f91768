/- Drawn maps with a place: orbiter. -/
import Derived.Test.YtkeajfgcjmhmiaaGreatDrX
namespace Go.Proofs.YtkeajfgcjmhmiaaGreat
open Go.RowKit

theorem OwP.setO {b k o : Nat} {e : TypeId} {w : World} {u : Value} {ps : List Pt} (h : OwP b e w u ps) (hk : u.ownBlock ≠ some k) {x : Value} : OwP b e (w.setCell ⟨k, o, none⟩ x) u ps := h.keepU (But.setCell (But.refl k w) x) hk
def OrbDrew (g : Nat) (v : Value) (m : Nat) (w : World) (e : Ending) (w' : World) : Prop := ∃ (r : Value) (ps : List Pt) (a b : Int), e = .returned (.tuple #[r, .agg #[.int .i64 a, .int .i64 b]]) ∧ OwP w.heap.size 51 w' r ps ∧ ps.length ≤ 62 ∧ Cur g v m w' ∧ But g w w'
def RelOrbi (g : Nat) (v : Value) (n : Nat) (K : Nat) (w : World) (f iv : Value) (wr : World) : Prop := ∃ (ps : List Pt) (j : Nat), iv = .int .i64 j ∧ j ≤ K + 1 ∧ OwP w.heap.size 51 wr f ps ∧ ps.length = j ∧ DS g v (n + j * 2) w wr
set_option maxRecDepth 100000 in
set_option maxHeartbeats 6400000 in
theorem orbiter_is (g : Nat) (v : Value) (n : Nat) (w : World) (hc : Cur g v n w) (hv : Code g w v) (hn : n + 2000 ≤ 1000000000) :
    Calls Tryz.prog 125 #[.pointer (some ⟨g, 0, none⟩)] w (OrbDrew g v (n + 600) w) := by
  have hg := lt_of_cell hc.code.1
  have HD := Lib.hid (DS.start hc hv)
  clear hc hv
  go_enter Tryz.func125, Tryz.ntmps125
  go_wp2_with fail
  refine (anyIm_is g v _ _ (HD.out.cur.keep (by go_grown)) (HD.out.code.keep (by go_grown)) (by omega)).mono ?_
  rintro e w1 ⟨r, ps, rfl, hr, hpl, hc, hb⟩
  have HD1 := Lib.hid (HD.out.step (by go_grown) hc hb)
  have q0 : Slot w1 w.heap.size 0 (.int .i64 0) := slotU hb (by omega) ⟨by simp [go_sem], by simp [go_sem]⟩
  have q1 : Slot w1 w.heap.size 1 (.int .i64 0) := slotU hb (by omega) ⟨by simp [go_sem], by simp [go_sem]⟩
  have HR1 := Lib.hid (hr.low (b := w.heap.size + 1) (by first | go_size | (simp; done) | (simp; omega)))
  clear hc hb hr
  have gl1 := HD1.out.lt
  have hz1 := HD1.out.but.size
  have zq := lt_of_cell q0.1
  have hrb : ∀ b, r.ownBlock = some b → b ≠ g := fun b hb => by have := HR1.out.blk b hb; omega
  go_wp2_with fail
  refine (one_is g v _ 2 _ (HD1.out.cur.keep (by go_grown)) (HD1.out.code.keep (by go_grown)) (by omega) (by omega)).mono ?_
  rintro e w2 ⟨b, rfl, hc, hb⟩
  have HD2 := Lib.hid (HD1.out.step (by go_grown) hc hb)
  have HR2 := Lib.hid ((HR1.out.keep (w' := w1) (Below.refl _ _)).keepU hb (fun h => hrb g h rfl))
  replace q0 := DS.slot (by go_grown) hb (by omega) q0
  replace q1 := DS.slot (by go_grown) hb (by omega) q1
  clear hc hb
  have zq := lt_of_cell q0.1
  have gl2 := HD2.out.lt
  have hz2 := HD2.out.but.size
  rcases b with _ | _
  · go_wp2_with fail
    refine (xOf_is g v _ (w.heap.size + 1) _ ps _ (HD2.out.cur.keep (by go_grown)) (HD2.out.code.keep (by go_grown)) (OwP.keep HR2.out (by go_grown)) (by omega) (by omega) (by omega)).mono ?_
    rintro e w3 ⟨a, b, rfl, hc, hb⟩
    have HD3 := Lib.hid (HD2.out.step (by go_grown) hc hb)
    have HR3 := Lib.hid ((HR2.out.keep (w' := w2) (Below.refl _ _)).keepU hb (fun h => hrb g h rfl))
    replace q0 := DS.slot (by go_grown) hb (by omega) q0
    replace q1 := DS.slot (by go_grown) hb (by omega) q1
    clear hc hb
    have zq := lt_of_cell q0.1
    obtain ⟨p0, f0⟩ := q0
    obtain ⟨p1, f1⟩ := q1
    go_wp2_with fail
    refine bodyPost_ret (v := .tuple #[_, .agg #[.int .i64 a, .int .i64 b]]) (by first | (simp [results, Tryz.results125, go_sem, p0, p1]; rfl) | (simp [results, Tryz.results125, go_sem, p0, p1, zq]; rfl)) rfl ⟨_, ps, a, b, rfl, ?_, hpl, ?_, ?_⟩
    · exact (OwP.setO (OwP.setO HR3.out (fun h => by have := HR3.out.blk _ h; omega)) (fun h => by have := HR3.out.blk _ h; omega)).low (by omega)
    · exact ((HD3.out.cur.setO (by omega) _).setO (by omega) _).more (by omega)
    · exact (HD3.out.but.setNew (Nat.le_refl _) _).setNew (Nat.le_refl _) _
  · clear HR1 HR2 hrb
    go_wp2_with fail
    refine (among_is g v _ [2, 2, 3, 4] _ _ (HD2.out.cur.keep (by go_grown)) (HD2.out.code.keep (by go_grown)) (by omega) (RdN.made .i64 _ [2, 2, 3, 4] _ (by simp [maxLen])) (by intro b o n c h; injection h with h; injection h with h; injection h with h; omega) (by simp)).mono ?_
    rintro e w4 ⟨k, rfl, hm, hc, hb⟩
    have HD4 := Lib.hid (HD2.out.step (by go_grown) hc hb)
    have bk : 2 ≤ k ∧ k ≤ 4 := by simp at hm; omega
    replace q0 := DS.slot (by go_grown) hb (by omega) q0
    replace q1 := DS.slot (by go_grown) hb (by omega) q1
    clear hc hb
    have zq := lt_of_cell q0.1
    clear hm
    have gl4 := HD4.out.lt
    have hz4 := HD4.out.but.size
    obtain ⟨K, rfl⟩ : ∃ K : Nat, k = K := ⟨k.toNat, by omega⟩
    have zq4 := zq
    go_wp2_with fail
    go_loopw [4, 6] (fun f iv wr => RelOrbi g v (n + 460) K w4 f iv wr) (fun _ iv _ => K + 1 - (intOf iv).toNat)
    case atStart => exact ⟨[], 0, rfl, Nat.zero_le _, World.ownsRow_nil _ _ _ _, rfl, ((DS.start HD4.out.cur HD4.out.code).grow (by go_grown)).more (by omega)⟩
    case round =>
      obtain ⟨ps2, j, rfl, hj, hps, hpl2, hds⟩ := hrel
      have HP2 := Lib.hid hps
      have HDS := Lib.hid hds
      have glr := hds.lt
      have hzr := hds.but.size
      have hbp := hps.blk
      clear hps hds
      by_cases hlt : j ≤ K
      · have c0 : (j : Int) ≤ (K : Int) := by omega
        have c0' : decide ((j : Int) ≤ (K : Int)) = true := decide_eq_true c0
        obtain ⟨a, b, hq, -⟩ := lowQ_fits (N := (j : Int)) (D := (K : Int)) (by omega) (by omega) (by omega) (by omega)
        have v1 : IntKind.i64.wrap ((j : Int) + 1) = (j : Int) + 1 := IntWalk.i64_in _ (by omega)
        go_wp2_with fail
        refine (raMake_any (j : Int) (K : Int) a b true hq (by omega) (by omega) _).mono ?_
        rintro e w5 ⟨rfl, hb⟩
        have hX5 : Below wr.heap.size wr w5 := nextX (by go_grown) hb
        clear hb
        go_wp2_with fail
        go_name_world W0 hW
        have e0 : Slot W0 w5.heap.size 0 (.int .i64 a) := by rw [← hW]; exact ⟨by simp [go_sem], by simp [go_sem]⟩
        have e1 : Slot W0 w5.heap.size 1 (.int .i64 b) := by rw [← hW]; exact ⟨by simp [go_sem], by simp [go_sem]⟩
        have hB0 : Below w5.heap.size w5 W0 := by rw [← hW]; go_grown
        have hX0 := nextW hX5 hB0
        have hz0 := lt_of_cell e0.1
        have hz5 := hX5.size
        clear hW
        refine wp_region_HT (S := (fun w' : World => w'.cell? ⟨w5.heap.size, 0, none⟩ = some (.int .i64 a) ∧ w'.cell? ⟨w5.heap.size, 1, none⟩ = some (.int .i64 b))) 11 (by kernel_rfl) (by kernel_rfl) ?_
        have hS0 : (fun w' : World => w'.cell? ⟨w5.heap.size, 0, none⟩ = some (.int .i64 a) ∧ w'.cell? ⟨w5.heap.size, 1, none⟩ = some (.int .i64 b)) _ := ⟨e0.1, e1.1⟩
        refine HT.take' (i := 0) (v := ?_) rfl (by kernel_rfl) (by decide) (by kernel_rfl) (by kernel_rfl) (fun _ _ _ h => h) (by rfl) (fun w' hS => ?_) hS0 ?_
        rotate_left
        focus
          obtain ⟨k0, k1⟩ := hS
          go_simp
          try with_reducible rfl
          done
        simp only [Act.put, List.setIfInBounds_toArray, List.set_cons_zero, List.set_cons_succ]
        refine HT.take' (i := 1) (v := ?_) rfl (by kernel_rfl) (by decide) (by kernel_rfl) (by kernel_rfl) (fun _ _ _ h => h) (by rfl) (fun w' hS => ?_) hS0 ?_
        rotate_left
        focus
          obtain ⟨k0, k1⟩ := hS
          go_simp
          try with_reducible rfl
          done
        simp only [Act.put, List.setIfInBounds_toArray, List.set_cons_zero, List.set_cons_succ]
        refine HT.take' (i := 2) (v := ?_) rfl (by kernel_rfl) (by decide) (by kernel_rfl) (by kernel_rfl) (fun _ _ _ h => h) (by rfl) (fun w' hS => ?_) hS0 ?_
        rotate_left
        focus
          obtain ⟨k0, k1⟩ := hS
          go_simp
          try with_reducible rfl
          done
        simp only [Act.put, List.setIfInBounds_toArray, List.set_cons_zero, List.set_cons_succ]
        refine HT.take' (i := 3) (v := ?_) rfl (by kernel_rfl) (by decide) (by kernel_rfl) (by kernel_rfl) (fun _ _ _ h => h) (by rfl) (fun w' hS => ?_) hS0 ?_
        rotate_left
        focus
          obtain ⟨k0, k1⟩ := hS
          go_simp
          try with_reducible rfl
          done
        simp only [Act.put, List.setIfInBounds_toArray, List.set_cons_zero, List.set_cons_succ]
        refine HT.one' (i := 4) rfl (by decide) (by kernel_rfl) (fun K hK => ?_)
        go_simp
        refine (pick_is g v _ 8 _ (HDS.out.cur.keep (nextW hX0 (by go_grown))) (HDS.out.code.keep (nextW hX0 (by go_grown))) (by omega) (by omega)).mono ?_
        rintro e w6 ⟨y, rfl, hy, hc, hb⟩
        have HD6 := Lib.hid (HDS.out.step (nextW hX0 (by go_grown)) hc hb)
        have HP6 := Lib.hid ((OwP.keep HP2.out (nextW hX0 (by go_grown))).keepU hb (fun h => by have := hbp g h; omega))
        have k0 := DS.slot (by go_grown) hb (by omega) e0
        have k1 := DS.slot (by go_grown) hb (by omega) e1
        have gl6 := HD6.out.lt
        have hz6 := HD6.out.but.size
        have hz7 := lt_of_cell k0.1
        clear hc hb
        obtain ⟨t, ht⟩ : ∃ t, (IntKind.i64.wrap ((j : Int) + IntKind.i64.wrap (y.tdiv 7))).tmod 2 = t := ⟨_, rfl⟩
        go_wp2_with fail
        refine hK _ _ ⟨k0.1, k1.1⟩ ?_
        clear hK
        try simp only [Act.put, List.setIfInBounds_toArray, List.set_cons_zero, List.set_cons_succ]
        have hS1 : (fun w' : World => w'.cell? ⟨w5.heap.size, 0, none⟩ = some (.int .i64 a) ∧ w'.cell? ⟨w5.heap.size, 1, none⟩ = some (.int .i64 b)) _ := ⟨k0.1, k1.1⟩
        refine HT.take' (i := 5) (v := ?_) rfl (by kernel_rfl) (by decide) (by kernel_rfl) (by kernel_rfl) (fun _ _ _ h => h) (by rfl) (fun w' hS => ?_) hS1 ?_
        rotate_left
        focus
          obtain ⟨k0, k1⟩ := hS
          go_simp
          try with_reducible rfl
          done
        simp only [Act.put, List.setIfInBounds_toArray, List.set_cons_zero, List.set_cons_succ]
        refine HT.take' (i := 6) (v := ?_) rfl (by kernel_rfl) (by decide) (by kernel_rfl) (by kernel_rfl) (fun _ _ _ h => h) (by rfl) (fun w' hS => ?_) hS1 ?_
        rotate_left
        focus
          obtain ⟨k0, k1⟩ := hS
          go_simp
          try with_reducible rfl
          done
        simp only [Act.put, List.setIfInBounds_toArray, List.set_cons_zero, List.set_cons_succ]
        refine HT.take' (i := 7) (v := ?_) rfl (by kernel_rfl) (by decide) (by kernel_rfl) (by kernel_rfl) (fun _ _ _ h => h) (by rfl) (fun w' hS => ?_) hS1 ?_
        rotate_left
        focus
          obtain ⟨k0, k1⟩ := hS
          go_simp
          try with_reducible rfl
          done
        simp only [Act.put, List.setIfInBounds_toArray, List.set_cons_zero, List.set_cons_succ]
        refine HT.one' (i := 8) rfl (by decide) (by kernel_rfl) (fun K hK => ?_)
        go_simp
        clear ht
        refine (raInt_any t _).mono ?_
        rintro e w8 ⟨rfl, hb⟩
        have hX8 : Below w6.heap.size w6 w8 := nextX (by go_grown) hb
        have l0 := cellB hX8 k0.1
        have l1 := cellB hX8 k1.1
        have HO8 := Lib.hid (OwP.keep HP6.out hX8)
        have HD8 := Lib.hid (HD6.out.grow hX8)
        have hz8 := HD8.out.but.size
        clear hb
        go_wp2_with fail
        refine hK _ _ ⟨l0, l1⟩ ?_
        clear hK
        try simp only [Act.put, List.setIfInBounds_toArray, List.set_cons_zero, List.set_cons_succ]
        have hS2 : (fun w' : World => w'.cell? ⟨w5.heap.size, 0, none⟩ = some (.int .i64 a) ∧ w'.cell? ⟨w5.heap.size, 1, none⟩ = some (.int .i64 b)) _ := ⟨l0, l1⟩
        refine HT.take' (i := 9) (v := ?_) rfl (by kernel_rfl) (by decide) (by kernel_rfl) (by kernel_rfl) (fun _ _ _ h => h) (by rfl) (fun w' hS => ?_) hS2 ?_
        rotate_left
        focus
          obtain ⟨k0, k1⟩ := hS
          go_simp
          try with_reducible rfl
          done
        simp only [Act.put, List.setIfInBounds_toArray, List.set_cons_zero, List.set_cons_succ]
        refine HT.one' (i := 10) rfl (by decide) (by kernel_rfl) (fun K hK => ?_)
        go_simp
        refine hK _ _ ⟨cellA _ l0, cellA _ l1⟩ ?_
        clear hK
        try simp only [Act.put, List.setIfInBounds_toArray, List.set_cons_zero, List.set_cons_succ]
        refine HT.done (by kernel_rfl) ?_
        simp only [List.drop_succ_cons, List.drop_zero]
        clear hS0 hS1 hS2 e0 e1 k0 k1 l0 l1
        go_wp2_with (at_builtin; refine append_p1 _ rfl _ _ rfl w4.heap.size _ ps2 rfl (HO8.out.keep (by go_grown)) w8.heap.size _ a b t 1 rfl ?c0 ?c1 ?c2 ?c3 ?len ?base ?_)
        case c0 => simp [go_sem]
        case c1 => simp [go_sem]
        case c2 => simp [go_sem]
        case c3 => simp [go_sem]
        case len => omega
        case base => go_size
        intro v' w' hown h7
        have HD9 := Lib.hid (DS.low (HD8.out.grow (by go_grown)) HD4.out.code h7 gl4)
        have HO9 := Lib.hid hown
        clear hown h7
        go_wp2_with fail
        go_roundw
        case rel => exact ⟨ps2 ++ [((a, b), (t, 1))], j + 1, by go_num, by omega, HO9.out, by simp; omega, HD9.out.more (by omega)⟩
        case measure => simp [intOf] <;> omega
      · obtain rfl : j = K + 1 := by omega
        have c0 : ¬ ((K + 1 : Nat) : Int) ≤ (K : Int) := by omega
        have c0' : decide (((K + 1 : Nat) : Int) ≤ (K : Int)) = false := decide_eq_false c0
        replace q0 := slotU HDS.out.but (by omega) q0
        replace q1 := slotU HDS.out.but (by omega) q1
        replace zq := lt_of_cell q0.1
        go_wp2_with fail
        refine (among_is g v _ [3, 5, 7, 9, 11, 15, 31, 64] _ _ (HDS.out.cur.keep (by go_grown)) (HDS.out.code.keep (by go_grown)) (by omega) (RdN.made .i64 _ [3, 5, 7, 9, 11, 15, 31, 64] _ (by simp [maxLen])) (by intro b o n c h; injection h with h; injection h with h; injection h with h; omega) (by simp)).mono ?_
        rintro e w7 ⟨N, rfl, hm, hc, hb⟩
        have HD7 := Lib.hid (HDS.out.step (by go_grown) hc hb)
        have HP7 := Lib.hid ((OwP.keep HP2.out (by go_grown)).keepU hb (fun h => by have := hbp g h; omega))
        have bN : 3 ≤ N ∧ N ≤ 64 := by simp at hm; omega
        replace q0 := DS.slot (by go_grown) hb (by omega) q0
        replace q1 := DS.slot (by go_grown) hb (by omega) q1
        clear hc hb
        have zq := lt_of_cell q0.1
        clear hm
        have gl7 := HD7.out.lt
        have hz7 := HD7.out.but.size
        go_wp2_with fail
        refine (gridRat_is g v _ N _ (HD7.out.cur.keep (by go_grown)) (HD7.out.code.keep (by go_grown)) (by omega) (by omega)).mono ?_
        rintro e w8 ⟨a, b, rfl, hab, hc, hb⟩
        have HD8 := Lib.hid (HD7.out.step (by go_grown) hc hb)
        have HP8 := Lib.hid ((HP7.out.keep (w' := w7) (Below.refl _ _)).keepU hb (fun h => by have := hbp g h; omega))
        replace q0 := DS.slot (by go_grown) hb (by omega) q0
        replace q1 := DS.slot (by go_grown) hb (by omega) q1
        clear hc hb
        have zq := lt_of_cell q0.1
        obtain ⟨p0, f0⟩ := q0
        obtain ⟨p1, f1⟩ := q1
        go_wp2_with fail
        refine bodyPost_ret (v := .tuple #[_, .agg #[.int .i64 a, .int .i64 b]]) (by first | (simp [results, Tryz.results125, go_sem, p0, p1]; rfl) | (simp [results, Tryz.results125, go_sem, p0, p1, zq]; rfl)) rfl ⟨_, ps2, a, b, rfl, ?_, by omega, ?_, ?_⟩
        · exact (OwP.setO (OwP.setO HP8.out (fun h => by have := HP8.out.blk _ h; omega)) (fun h => by have := HP8.out.blk _ h; omega)).low (by omega)
        · exact ((HD8.out.cur.setO (by omega) _).setO (by omega) _).more (by omega)
        · exact ((HD4.out.but.trans HD8.out.but).setNew (Nat.le_refl _) _).setNew (Nat.le_refl _) _

end Go.Proofs.YtkeajfgcjmhmiaaGreat
