/- Drawn maps: im. UNDER WAY. -/
import Derived.Test.YtkeajfgcjmhmiaaDrM
namespace Go.Proofs.Ytkeajfgcjmhmiaa
open Go.RowKit

def OkP2 (ps : List Pt) : Prop := ∀ p ∈ ps, okQ p.1.1 p.1.2 = true ∧ okQ p.2.1 p.2.2 = true
theorem rowP_setY {p0 p1 : Pt} {r : List Pt} (a b : Int) : ((rowP (p0 :: p1 :: r)).set 6 (.int .i64 a)).set 7 (.int .i64 b) = rowP (p0 :: (p1.1, (a, b)) :: r) := by simp [rowP]
def RelDrIm (g : Nat) (v : Value) (n : Nat) (K : Nat) (w : World) (f iv : Value) (wr : World) : Prop := ∃ (ps : List Pt) (j : Nat), iv = .int .i64 j ∧ j ≤ K + 1 ∧ OwP w.heap.size 43 wr f ps ∧ ps.length = j ∧ OkP2 ps ∧ DS g v n w wr
set_option maxRecDepth 100000 in
set_option maxHeartbeats 3200000 in
theorem im_is (g : Nat) (v : Value) (n : Nat) (w : World) (hc : Cur g v n w) (hv : Code g w v) (hn : n + 500 ≤ 1000000000) :
    Calls Try.prog 54 #[.pointer (some ⟨g, 0, none⟩)] w (RowDrew g v (n + 400) 2 62 w) := by
  have hg := lt_of_cell hc.code.1
  have HD := Lib.hid (DS.start hc hv)
  clear hc hv
  go_enter Try.func54, Try.ntmps54
  go_wp2_with fail
  refine (among_is g v _ [1, 2, 2, 3, 4, 4, 6, 12, 100] _ _ (HD.out.cur.keep (by go_grown)) (HD.out.code.keep (by go_grown)) (by omega) (RdN.made .i64 _ [1, 2, 2, 3, 4, 4, 6, 12, 100] _ (by simp [maxLen])) (by intro b o n c h; injection h with h; injection h with h; injection h with h; omega) (by simp)).mono ?_
  rintro e w1 ⟨N, rfl, hm, hc, hb⟩
  have HD1 := Lib.hid (HD.out.step (by go_grown) hc hb)
  have bN : 1 ≤ N ∧ N ≤ 100 := by simp at hm; omega
  clear hc hb hm
  have gl1 := HD1.out.lt
  have hz1 := HD1.out.but.size
  go_wp2_with fail
  refine (imGrid_is g v _ N _ (HD1.out.cur.keep (by go_grown)) (HD1.out.code.keep (by go_grown)) (by omega) (by omega)).mono ?_
  rintro e w2 ⟨r, ps, rfl, hr, hpl, hpo, hc, hb⟩
  have HD2 := Lib.hid (HD1.out.step (by go_grown) hc hb)
  have HR2 := Lib.hid (hr.low (b := w.heap.size) (by go_size))
  have gl2 := HD2.out.lt
  have hz2 := HD2.out.but.size
  have hrb : ∀ b, r.ownBlock = some b → b ≠ g := fun b hb => by have := HR2.out.blk b hb; omega
  clear hc hb hr
  go_wp2_with fail
  refine (one_is g v _ 3 _ (HD2.out.cur.keep (by go_grown)) (HD2.out.code.keep (by go_grown)) (by omega) (by omega)).mono ?_
  rintro e w3 ⟨b, rfl, hc, hb⟩
  have HD3 := Lib.hid (HD2.out.step (by go_grown) hc hb)
  have HR3 := Lib.hid ((HR2.out.keep (w' := w2) (Below.refl _ _)).keepU hb (fun h => hrb g h rfl))
  have gl3 := HD3.out.lt
  have hz3 := HD3.out.but.size
  clear hc hb
  rcases b with _ | _
  · go_wp2_with fail
    go_ret
    exact ⟨_, ps, rfl, HR3.out, hpl, hpo, HD3.out.cur.more (by omega), HD3.out.but⟩
  · go_wp2_with fail
    refine (among_is g v _ [2, 2, 3, 4] _ _ (HD3.out.cur.keep (by go_grown)) (HD3.out.code.keep (by go_grown)) (by omega) (RdN.made .i64 _ [2, 2, 3, 4] _ (by simp [maxLen])) (by intro b o n c h; injection h with h; injection h with h; injection h with h; omega) (by simp)).mono ?_
    rintro e w4 ⟨k, rfl, hm, hc, hb⟩
    have HD4 := Lib.hid (HD3.out.step (by go_grown) hc hb)
    have bk : 2 ≤ k ∧ k ≤ 4 := by simp at hm; omega
    clear hc hb hm
    have gl4 := HD4.out.lt
    have hz4 := HD4.out.but.size
    obtain ⟨K, rfl⟩ : ∃ K : Nat, k = K := ⟨k.toNat, by omega⟩
    go_wp2_with fail
    go_loopw [4, 6] (fun f iv wr => RelDrIm g v (n + 330) K w4 f iv wr) (fun _ iv _ => K + 1 - (intOf iv).toNat)
    case atStart => exact ⟨[], 0, rfl, Nat.zero_le _, World.ownsRow_nil _ _ _ _, rfl, by intro p hp; simp at hp, ((DS.start HD4.out.cur HD4.out.code).grow (by go_grown)).more (by omega)⟩
    case round =>
      obtain ⟨ps2, j, rfl, hj, hps, hpl2, hpo2, hds⟩ := hrel
      have HP2 := Lib.hid hps
      have HPO := Lib.hid hpo2
      have HDS := Lib.hid hds
      have glr := hds.lt
      have hzr := hds.but.size
      have hbp := hps.blk
      clear hps hpo2 hds
      by_cases hlt : j ≤ K
      · have c0 : (j : Int) ≤ (K : Int) := by omega
        have c0' : decide ((j : Int) ≤ (K : Int)) = true := decide_eq_true c0
        obtain ⟨a, b, hq, -, -, -, -, hok⟩ := lowQ_fits (N := (j : Int)) (D := (K : Int)) (by omega) (by omega) (by omega) (by omega)
        have HQ := Lib.hid hok
        have v1 : IntKind.i64.wrap ((j : Int) + 1) = (j : Int) + 1 := IntWalk.i64_in _ (by omega)
        have v2 : (j : Int).tmod 2 = (j : Int) % 2 := Int.tmod_eq_emod_of_nonneg (by omega)
        have v3 : IntKind.i64.wrap ((j : Int) % 2) = (j : Int) % 2 := IntWalk.i64_in _ (by omega)
        have hy : okQ ((j : Int) % 2) 1 = true := by
          rcases (show (j : Int) % 2 = 0 ∨ (j : Int) % 2 = 1 by omega) with h | h <;> rw [h] <;> decide
        have HY := Lib.hid hy
        clear hok hy
        go_wp2_with fail
        refine (raMake_any (j : Int) (K : Int) a b true hq (by omega) (by omega) _).mono ?_
        rintro e w5 ⟨rfl, hb⟩
        have hX5 : Below wr.heap.size wr w5 := nextX (by go_grown) hb
        clear hb
        go_wp2_with fail
        go_name_world W0 hW
        have e0 : W0.cell? ⟨w5.heap.size, 0, none⟩ = some (.int .i64 a) := by rw [← hW]; simp [go_sem]
        have e1 : W0.cell? ⟨w5.heap.size, 1, none⟩ = some (.int .i64 b) := by rw [← hW]; simp [go_sem]
        have hB0 : Below w5.heap.size w5 W0 := by rw [← hW]; go_grown
        have hX0 := nextW hX5 hB0
        have hz0 := lt_of_cell e0
        clear hW
        refine wp_region_HT (S := (fun w' : World => w'.cell? ⟨w5.heap.size, 0, none⟩ = some (.int .i64 a) ∧ w'.cell? ⟨w5.heap.size, 1, none⟩ = some (.int .i64 b))) 7 (by kernel_rfl) (by kernel_rfl) ?_
        have hS0 : (fun w' : World => w'.cell? ⟨w5.heap.size, 0, none⟩ = some (.int .i64 a) ∧ w'.cell? ⟨w5.heap.size, 1, none⟩ = some (.int .i64 b)) _ := ⟨e0, e1⟩
        refine HT.take' (i := 0) (v := ?_) rfl (by kernel_rfl) (by decide) (by kernel_rfl) (by kernel_rfl) (fun _ _ _ h => h) (by rfl) (fun w' hS => ?_) hS0 ?_
        rotate_left
        focus
          obtain ⟨k0, k1⟩ := hS
          go_simp
          try with_reducible rfl
          done
        simp only [Act.put, List.setIfInBounds_toArray, List.set_cons_zero, List.set_cons_succ]
        refine HT.take' (i := 1) (v := ?_) rfl (by kernel_rfl) (by decide) (by kernel_rfl) (by kernel_rfl) (fun _ _ _ h => h) (by rfl) (fun w' hS => ?_) hS0 ?_
        rotate_left
        focus
          obtain ⟨k0, k1⟩ := hS
          go_simp
          try with_reducible rfl
          done
        simp only [Act.put, List.setIfInBounds_toArray, List.set_cons_zero, List.set_cons_succ]
        refine HT.take' (i := 2) (v := ?_) rfl (by kernel_rfl) (by decide) (by kernel_rfl) (by kernel_rfl) (fun _ _ _ h => h) (by rfl) (fun w' hS => ?_) hS0 ?_
        rotate_left
        focus
          obtain ⟨k0, k1⟩ := hS
          go_simp
          try with_reducible rfl
          done
        simp only [Act.put, List.setIfInBounds_toArray, List.set_cons_zero, List.set_cons_succ]
        refine HT.take' (i := 3) (v := ?_) rfl (by kernel_rfl) (by decide) (by kernel_rfl) (by kernel_rfl) (fun _ _ _ h => h) (by rfl) (fun w' hS => ?_) hS0 ?_
        rotate_left
        focus
          obtain ⟨k0, k1⟩ := hS
          go_simp
          try with_reducible rfl
          done
        simp only [Act.put, List.setIfInBounds_toArray, List.set_cons_zero, List.set_cons_succ]
        refine HT.one' (i := 4) rfl (by decide) (by kernel_rfl) (fun K hK => ?_)
        go_simp
        refine (raInt_any ((j : Int) % 2) _).mono ?_
        rintro e w6 ⟨rfl, hb⟩
        have hX6 : Below W0.heap.size W0 w6 := nextX (by go_grown) hb
        have k0 := cellB hX6 e0
        have k1 := cellB hX6 e1
        have HO6 := Lib.hid (OwP.keep HP2.out (nextW hX0 hX6))
        have HD6 := Lib.hid (HDS.out.grow (nextW hX0 hX6))
        have hz6 := HD6.out.but.size
        clear hb
        go_wp2_with fail
        refine hK _ _ ⟨k0, k1⟩ ?_
        clear hK
        try simp only [Act.put, List.setIfInBounds_toArray, List.set_cons_zero, List.set_cons_succ]
        have hS1 : (fun w' : World => w'.cell? ⟨w5.heap.size, 0, none⟩ = some (.int .i64 a) ∧ w'.cell? ⟨w5.heap.size, 1, none⟩ = some (.int .i64 b)) _ := ⟨k0, k1⟩
        refine HT.take' (i := 5) (v := ?_) rfl (by kernel_rfl) (by decide) (by kernel_rfl) (by kernel_rfl) (fun _ _ _ h => h) (by rfl) (fun w' hS => ?_) hS1 ?_
        rotate_left
        focus
          obtain ⟨k0, k1⟩ := hS
          go_simp
          try with_reducible rfl
          done
        simp only [Act.put, List.setIfInBounds_toArray, List.set_cons_zero, List.set_cons_succ]
        refine HT.one' (i := 6) rfl (by decide) (by kernel_rfl) (fun K hK => ?_)
        go_simp
        refine hK _ _ ⟨cellA _ k0, cellA _ k1⟩ ?_
        clear hK
        try simp only [Act.put, List.setIfInBounds_toArray, List.set_cons_zero, List.set_cons_succ]
        refine HT.done (by kernel_rfl) ?_
        simp only [List.drop_succ_cons, List.drop_zero]
        clear hS0 hS1 e0 e1 k0 k1
        go_wp2_with (at_builtin; refine append_p1 _ rfl _ _ rfl w4.heap.size _ ps2 rfl (HO6.out.keep (by go_grown)) w6.heap.size _ a b ((j : Int) % 2) 1 rfl ?c0 ?c1 ?c2 ?c3 ?len ?base ?_)
        case c0 => simp [go_sem]
        case c1 => simp [go_sem]
        case c2 => simp [go_sem]
        case c3 => simp [go_sem]
        case len => omega
        case base => go_size
        intro v' w' hown h7
        have HD7 := Lib.hid (DS.low (HD6.out.grow (by go_grown)) HD4.out.code h7 gl4)
        have HO7 := Lib.hid hown
        clear hown h7
        go_wp2_with fail
        go_roundw
        case rel => exact ⟨ps2 ++ [((a, b), ((j : Int) % 2, 1))], j + 1, by go_num, by omega, HO7.out, by simp; omega, fun p hp => (List.mem_append.1 hp).elim (HPO.out p) (fun h => by rw [List.mem_singleton] at h; subst h; exact ⟨HQ.out, HY.out⟩), HD7.out⟩
        case measure => simp [intOf] <;> omega
      · obtain rfl : j = K + 1 := by omega
        have c0 : ¬ ((K + 1 : Nat) : Int) ≤ (K : Int) := by omega
        have c0' : decide (((K + 1 : Nat) : Int) ≤ (K : Int)) = false := decide_eq_false c0
        go_wp2_with fail
        refine (one_is g v _ 2 _ (HDS.out.cur.keep (by go_grown)) (HDS.out.code.keep (by go_grown)) (by omega) (by omega)).mono ?_
        rintro e w7 ⟨b, rfl, hc, hb⟩
        have HD7 := Lib.hid (HDS.out.step (by go_grown) hc hb)
        have HP7 := Lib.hid ((HP2.out.keep (w' := wr) (Below.refl _ _)).keepU hb (fun h => by have := hbp g h; omega))
        clear hc hb
        rcases b with _ | _
        · go_wp2_with fail
          go_ret
          exact ⟨_, ps2, rfl, OwP.low HP7.out (by omega), by omega, HPO.out, HD7.out.cur.more (by omega), HD4.out.but.trans HD7.out.but⟩
        · obtain ⟨p0, p1, rest, rfl⟩ : ∃ p0 p1 rest, ps2 = p0 :: p1 :: rest := by
            match ps2, hpl2 with
            | [], h => simp at h
            | [_], h => simp at h; omega
            | p0 :: p1 :: rest, _ => exact ⟨p0, p1, rest, rfl⟩
          obtain ⟨Af, cf, hfe, -, -⟩ := ownsRow_slice HP7.out
          subst hfe
          obtain ⟨gf, hA⟩ : ∃ gf, Af = some ⟨gf, 0, none⟩ := by
            rcases HP7.out.2 with ⟨h, hn⟩ | ⟨g', cap', cur', h, -⟩
            · simp at hn
            · injection h with h; exact ⟨g', h⟩
          subst hA
          have hgf : gf ≠ g := fun h => by have := hbp gf rfl; omega
          have gl7 := HD7.out.lt
          have hz7 := HD7.out.but.size
          have b1 : (1 : Int) < (((p0 :: p1 :: rest).length : Nat) : Int) := by simp; omega
          go_wp2_with fail
          refine (gridRat_is g v _ N _ (HD7.out.cur.keep (by go_grown)) (HD7.out.code.keep (by go_grown)) (by omega) (by omega)).mono ?_
          rintro e w8 ⟨a, b, rfl, hab, hc, hb⟩
          have HD8 := Lib.hid (HD7.out.step (by go_grown) hc hb)
          have HP8 := Lib.hid ((HP7.out.keep (w' := w7) (Below.refl _ _)).keepU hb (fun h => by have := hbp g h; omega))
          clear hc hb
          have c6 := World.ownsRow.cellAt HP8.out 6 (by simp; omega)
          have c7 := World.ownsRow.cellAt HP8.out 7 (by simp; omega)
          simp [rowP] at c6 c7
          have f6 := World.ownsRow.frozenAt HP8.out 6
          have f7 := World.ownsRow.frozenAt HP8.out 7
          have s1 := World.ownsRow.stored HP8.out 6 (.int .i64 a)
          have s2 := World.ownsRow.stored s1.1 7 (.int .i64 b)
          have hrow := s2.1
          rw [rowP_setY] at hrow
          have HF := Lib.hid (And.intro hrow (And.intro s1.2 s2.2))
          clear s1 s2 hrow
          go_wp2_with fail
          go_ret
          have hge : w4.heap.size ≤ gf := hbp gf rfl
          have hF1 := HF.out.1
          have hl3 : (p0 :: (p1.1, (a, b)) :: rest).length = K + 1 := hpl2
          rw [hpl2] at hF1
          refine ⟨_, p0 :: (p1.1, (a, b)) :: rest, rfl, OwP.low (base := w4.heap.size) (by unfold OwP; rw [hl3]; exact hF1) (by omega), by simp at hpl2 ⊢; omega, ?_, ((HD8.out.cur.setO hgf _).setO hgf _).more (by omega), HD4.out.but.trans ((HD8.out.but.setNew hge _).setNew hge _)⟩
          intro p hp
          rw [List.mem_cons, List.mem_cons] at hp
          rcases hp with rfl | rfl | hp
          · exact HPO.out _ (by simp)
          · exact ⟨(HPO.out p1 (by simp)).1, hab⟩
          · exact HPO.out p (by simp [hp])

end Go.Proofs.Ytkeajfgcjmhmiaa
