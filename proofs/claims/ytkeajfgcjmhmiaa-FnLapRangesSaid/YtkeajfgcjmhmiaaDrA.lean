/- Drawn rows of points, mostly maps: anyIm. -/
import Derived.Test.YtkeajfgcjmhmiaaDrI
namespace Go.Proofs.Ytkeajfgcjmhmiaa
open Go.RowKit

theorem rowP_take (ps : List Pt) (k : Nat) : rowP (ps.take k) = (rowP ps).take (k * 4) := by
  have h : rowP ps = rowP (ps.take k) ++ rowP (ps.drop k) := by rw [← rowP_app, List.take_append_drop]
  rcases Nat.lt_or_ge ps.length k with hk | hk
  · have e1 : ps.take k = ps := List.take_of_length_le (by omega)
    rw [e1, List.take_of_length_le (by rw [rowP_len]; omega)]
  · have e2 : (rowP (ps.take k)).length = k * 4 := by rw [rowP_len, List.length_take]; omega
    rw [h, ← e2, List.take_left]
theorem rowP_cons (q : Pt) (ps : List Pt) : rowP (q :: ps) = .int .i64 q.1.1 :: .int .i64 q.1.2 :: .int .i64 q.2.1 :: .int .i64 q.2.2 :: rowP ps := rfl
theorem rowP_setX (a b : Int) : ∀ (ps : List Pt) (k : Nat) (p : Pt), ps[k]? = some p → ((rowP ps).set (k * 4) (.int .i64 a)).set (k * 4 + 1) (.int .i64 b) = rowP (ps.set k ((a, b), p.2))
  | [], k, p, h => by simp at h
  | q :: ps, 0, p, h => by
    simp only [List.getElem?_cons_zero, Option.some.injEq] at h
    subst h
    simp [rowP_cons]
  | q :: ps, k + 1, p, h => by
    have ih := rowP_setX a b ps k p (by simpa using h)
    rw [List.set_cons_succ, rowP_cons, rowP_cons, ← ih, show (k + 1) * 4 = k * 4 + 1 + 1 + 1 + 1 by omega]
    simp only [List.set_cons_succ]
theorem rowP_setY' (a b : Int) : ∀ (ps : List Pt) (k : Nat) (p : Pt), ps[k]? = some p → ((rowP ps).set (k * 4 + 2) (.int .i64 a)).set (k * 4 + 2 + 1) (.int .i64 b) = rowP (ps.set k (p.1, (a, b)))
  | [], k, p, h => by simp at h
  | q :: ps, 0, p, h => by
    simp only [List.getElem?_cons_zero, Option.some.injEq] at h
    subst h
    simp [rowP_cons]
  | q :: ps, k + 1, p, h => by
    have ih := rowP_setY' a b ps k p (by simpa using h)
    rw [List.set_cons_succ, rowP_cons, rowP_cons, ← ih, show (k + 1) * 4 + 2 = k * 4 + 2 + 1 + 1 + 1 + 1 by omega]
    simp only [List.set_cons_succ]
/-- A row without its last points. -/
theorem OwP.part {b : Nat} {e : TypeId} {w : World} {A : Option Addr} {n c : Nat} {ps : List Pt} (h : OwP b e w (.slice A n c) ps) (k : Nat) (hk : k ≤ ps.length) (h0 : ps ≠ []) : OwP b e w (.slice A k c) (ps.take k) := by
  obtain ⟨h1, ⟨h2, h3⟩ | ⟨g, cap, cur, h2, h3, h4, h5, h6, h7, h8⟩⟩ := h
  · exact absurd (List.length_eq_zero_iff.1 h3) h0
  · injection h2 with e1 e2 e3
    subst e1; subst e3
    have hl : (ps.take k).length = k := by rw [List.length_take]; omega
    refine ⟨by rw [rowP_len], .inr ⟨g, c, cur, by rw [hl], h3, h4, by rw [hl]; omega, h6, h7, ?_⟩⟩
    rw [hl, rowP_take, ← h8, List.take_take]
    congr 1
    omega
/-- A drawn row of points, of any numbers. -/
def AnyRow (g : Nat) (v : Value) (m : Nat) (w : World) (e : Ending) (w' : World) : Prop := ∃ (r : Value) (ps : List Pt), e = .returned r ∧ OwP w.heap.size 43 w' r ps ∧ ps.length ≤ 62 ∧ Cur g v m w' ∧ But g w w'
def RelAny (g : Nat) (v : Value) (n : Nat) (w : World) (f : Value) (wr : World) : Prop := ∃ (ps : List Pt), OwP w.heap.size 43 wr f ps ∧ ps.length ≤ 13 ∧ DS g v n w wr

set_option maxRecDepth 100000 in
set_option maxHeartbeats 6400000 in
theorem anyIm_is (g : Nat) (v : Value) (n : Nat) (w : World) (hc : Cur g v n w) (hv : Code g w v) (hn : n + 1000 ≤ 1000000000) :
    Calls Try.prog 26 #[.pointer (some ⟨g, 0, none⟩)] w (AnyRow g v (n + 450) w) := by
  have hg := lt_of_cell hc.code.1
  have HD := Lib.hid (DS.start hc hv)
  have HD0 := HD
  clear hc hv
  go_enter Try.func26, Try.ntmps26
  go_wp2_with fail
  refine (im_is g v _ _ (HD.out.cur.keep (by go_grown)) (HD.out.code.keep (by go_grown)) (by omega)).mono ?_
  rintro e w1 ⟨r, ps, rfl, hr, hpl, hpo, hc, hb⟩
  have HD1 := Lib.hid (HD.out.step (by go_grown) hc hb)
  have HR1 := Lib.hid (hr.low (b := w.heap.size) (by go_size))
  have gl1 := HD1.out.lt
  have hz1 := HD1.out.but.size
  clear hc hb hr hpo
  obtain ⟨Af, cf, hfe, hfl, hfm⟩ := ownsRow_slice HR1.out
  subst hfe
  obtain ⟨gf, hA⟩ : ∃ gf, Af = some ⟨gf, 0, none⟩ := by
    rcases HR1.out.2 with ⟨h, hn⟩ | ⟨g', cap', cur', h, -⟩
    · omega
    · injection h with h; exact ⟨g', h⟩
  subst hA
  have hge : w.heap.size ≤ gf := HR1.out.blk gf rfl
  have hgf : gf ≠ g := by omega
  unfold maxLen at hfm
  go_wp2_with fail
  refine (pick_is g v _ (ps.length : Int) _ (HD1.out.cur.keep (by go_grown)) (HD1.out.code.keep (by go_grown)) (by omega) (by omega)).mono ?_
  rintro e w2 ⟨x, rfl, hx, hc, hb⟩
  have HD2 := Lib.hid (HD1.out.step (by go_grown) hc hb)
  have HR2 := Lib.hid ((HR1.out.keep (w' := w1) (Below.refl _ _)).keepU hb (fun h => by injection h with h; exact hgf h))
  have gl2 := HD2.out.lt
  have hz2 := HD2.out.but.size
  clear hc hb
  obtain ⟨k, rfl⟩ : ∃ k : Nat, x = k := ⟨x.toNat, by omega⟩
  have kl : k < ps.length := by omega
  have kli : (k : Int) < ((ps.length : Nat) : Int) := by omega
  have hp := List.getElem?_eq_getElem kl
  generalize ps[k] = p at hp
  go_wp2_with fail
  refine (pick_is g v _ 36 _ (HD2.out.cur.keep (by go_grown)) (HD2.out.code.keep (by go_grown)) (by omega) (by omega)).mono ?_
  rintro e w3 ⟨s, rfl, hs, hc, hb⟩
  have HD3 := Lib.hid (HD2.out.step (by go_grown) hc hb)
  have HR3 := Lib.hid ((HR2.out.keep (w' := w2) (Below.refl _ _)).keepU hb (fun h => by injection h with h; exact hgf h))
  have gl3 := HD3.out.lt
  have hz3 := HD3.out.but.size
  clear hc hb
  by_cases x0 : s = 0
  · have e0 : s = 0 := by omega
    subst e0
    clear hs
    go_wp2_with fail
    refine (anyRat_is g v _ _ (HD3.out.cur.keep (by go_grown)) (HD3.out.code.keep (by go_grown)) (by omega)).mono ?_
    rintro e w4 ⟨a, b, rfl, hab, hc, hb⟩
    have HD4 := Lib.hid (HD3.out.step (by go_grown) hc hb)
    have HR4 := Lib.hid ((HR3.out.keep (w' := w3) (Below.refl _ _)).keepU hb (fun h => by injection h with h; exact hgf h))
    clear hc hb hab
    have c0 := World.ownsRow.cellAt HR4.out (k * 4) (by omega)
    have c1 := World.ownsRow.cellAt HR4.out (k * 4 + 1) (by omega)
    obtain ⟨g0, g1, g2, g3⟩ := rowP_get ps k p hp
    rw [g0] at c0
    rw [g1] at c1
    clear g0 g1 g2 g3
    have f0 := World.ownsRow.frozenAt HR4.out (k * 4)
    have f1 := World.ownsRow.frozenAt HR4.out (k * 4 + 1)
    have s1 := World.ownsRow.stored HR4.out (k * 4) (.int .i64 a)
    have s2 := World.ownsRow.stored s1.1 (k * 4 + 1) (.int .i64 b)
    have hrow := s2.1
    rw [rowP_setX a b ps k p hp] at hrow
    have HF := Lib.hid hrow
    clear s1 s2 hrow
    go_wp2_with fail
    go_ret
    refine ⟨_, ps.set k ((a, b), p.2), rfl, ?_, by rw [List.length_set]; omega, ((HD4.out.cur.setO hgf _).setO hgf _).more (by omega), (HD4.out.but.setNew hge _).setNew hge _⟩
    have := HF.out
    unfold OwP
    rw [List.length_set]
    exact this
  by_cases x1 : s = 1
  · have e1 : s = 1 := by omega
    subst e1
    clear hs
    go_wp2_with fail
    refine (anyRat_is g v _ _ (HD3.out.cur.keep (by go_grown)) (HD3.out.code.keep (by go_grown)) (by omega)).mono ?_
    rintro e w4 ⟨a, b, rfl, hab, hc, hb⟩
    have HD4 := Lib.hid (HD3.out.step (by go_grown) hc hb)
    have HR4 := Lib.hid ((HR3.out.keep (w' := w3) (Below.refl _ _)).keepU hb (fun h => by injection h with h; exact hgf h))
    clear hc hb hab
    have c0 := World.ownsRow.cellAt HR4.out (k * 4 + 2) (by omega)
    have c1 := World.ownsRow.cellAt HR4.out (k * 4 + 2 + 1) (by omega)
    obtain ⟨g0, g1, g2, g3⟩ := rowP_get ps k p hp
    rw [g2] at c0
    rw [g3] at c1
    clear g0 g1 g2 g3
    have f0 := World.ownsRow.frozenAt HR4.out (k * 4 + 2)
    have f1 := World.ownsRow.frozenAt HR4.out (k * 4 + 2 + 1)
    have s1 := World.ownsRow.stored HR4.out (k * 4 + 2) (.int .i64 a)
    have s2 := World.ownsRow.stored s1.1 (k * 4 + 2 + 1) (.int .i64 b)
    have hrow := s2.1
    rw [rowP_setY' a b ps k p hp] at hrow
    have HF := Lib.hid hrow
    clear s1 s2 hrow
    go_wp2_with fail
    go_ret
    refine ⟨_, ps.set k (p.1, (a, b)), rfl, ?_, by rw [List.length_set]; omega, ((HD4.out.cur.setO hgf _).setO hgf _).more (by omega), (HD4.out.but.setNew hge _).setNew hge _⟩
    have := HF.out
    unfold OwP
    rw [List.length_set]
    exact this
  by_cases x2 : s = 2
  · have e2 : s = 2 := by omega
    subst e2
    clear hs
    go_wp2_with fail
    refine (pick_is g v _ 50 _ (HD3.out.cur.keep (by go_grown)) (HD3.out.code.keep (by go_grown)) (by omega) (by omega)).mono ?_
    rintro e w5 ⟨y, rfl, hy, hc, hb⟩
    have HD5 := Lib.hid (HD3.out.step (by go_grown) hc hb)
    have HR5 := Lib.hid ((HR3.out.keep (w' := w3) (Below.refl _ _)).keepU hb (fun h => by injection h with h; exact hgf h))
    have gl5 := HD5.out.lt
    have hz5 := HD5.out.but.size
    clear hc hb
    obtain ⟨a, b, hq, -⟩ := lowQ_fits (N := y) (D := 101) (by omega) (by omega) (by omega) (by omega)
    go_wp2_with fail
    refine (raMake_any y 101 a b true hq (by omega) (by omega) _).mono ?_
    rintro e w4 ⟨rfl, hb⟩
    have hX4 : Below w5.heap.size w5 w4 := nextX (by go_grown) hb
    have HD4 := Lib.hid (HD5.out.grow hX4)
    have HR4 := Lib.hid (OwP.keep HR5.out hX4)
    clear hb hX4
    have c0 := World.ownsRow.cellAt HR4.out (k * 4 + 2) (by omega)
    have c1 := World.ownsRow.cellAt HR4.out (k * 4 + 2 + 1) (by omega)
    obtain ⟨g0, g1, g2, g3⟩ := rowP_get ps k p hp
    rw [g2] at c0
    rw [g3] at c1
    clear g0 g1 g2 g3
    have f0 := World.ownsRow.frozenAt HR4.out (k * 4 + 2)
    have f1 := World.ownsRow.frozenAt HR4.out (k * 4 + 2 + 1)
    have s1 := World.ownsRow.stored HR4.out (k * 4 + 2) (.int .i64 a)
    have s2 := World.ownsRow.stored s1.1 (k * 4 + 2 + 1) (.int .i64 b)
    have hrow := s2.1
    rw [rowP_setY' a b ps k p hp] at hrow
    have HF := Lib.hid hrow
    clear s1 s2 hrow
    go_wp2_with fail
    go_ret
    refine ⟨_, ps.set k (p.1, (a, b)), rfl, ?_, by rw [List.length_set]; omega, ((HD4.out.cur.setO hgf _).setO hgf _).more (by omega), (HD4.out.but.setNew hge _).setNew hge _⟩
    have := HF.out
    unfold OwP
    rw [List.length_set]
    exact this
  by_cases x3 : s = 3
  · have e3 : s = 3 := by omega
    subst e3
    clear hs
    have vl : IntKind.i64.wrap (((ps.length : Nat) : Int) - 1) = ((ps.length - 1 : Nat) : Int) := by rw [IntWalk.i64_in _ (by omega)]; omega
    go_wp2_with fail
    go_ret
    have hne : ps ≠ [] := by intro e; rw [e] at hpl; simp at hpl
    exact ⟨_, ps.take (ps.length - 1), rfl, HR3.out.part (ps.length - 1) (by omega) hne, by rw [List.length_take]; omega, HD3.out.cur.more (by omega), HD3.out.but⟩
  by_cases x4 : s = 4
  · have e4 : s = 4 := by omega
    subst e4
    clear hs
    clear HR3 HR2 HR1 HD1 HD2 hp kl kli hfl hfm
    go_wp2_with fail
    go_loopw [3] (fun f wr => RelAny g v (n + 420) w f wr) (fun f _ => 13 - lenOf f)
    case atStart => exact ⟨[], World.ownsRow_nil _ _ _ _, Nat.zero_le _, (HD3.out.grow (by go_grown)).more (by omega)⟩
    case round =>
      obtain ⟨qs, hqs, hql, hds⟩ := hrel
      have HP2 := Lib.hid hqs
      have HDS := Lib.hid hds
      have glr := hds.lt
      have hzr := hds.but.size
      obtain ⟨Ar, cr, hfe, hfl, hfm⟩ := ownsRow_slice hqs
      subst hfe
      unfold maxLen at hfm
      clear hqs hds
      by_cases hlt : qs.length < 13
      · have c0 : ((qs.length : Nat) : Int) < 13 := by omega
        have c0' : decide (((qs.length : Nat) : Int) < 13) = true := decide_eq_true c0
        obtain ⟨a, b, hq, -⟩ := lowQ_fits (N := ((qs.length : Nat) : Int)) (D := 12) (by omega) (by omega) (by omega) (by omega)
        go_wp2_with fail
        refine (raMake_any ((qs.length : Nat) : Int) 12 a b true hq (by omega) (by omega) _).mono ?_
        rintro e w5 ⟨rfl, hb⟩
        have hX5 : Below wr.heap.size wr w5 := nextX (by go_grown) hb
        clear hb
        go_wp2_with fail
        go_name_world W0 hW
        have e0 : W0.cell? ⟨w5.heap.size, 0, none⟩ = some (.int .i64 a) := by rw [← hW]; simp [go_sem]
        have e1 : W0.cell? ⟨w5.heap.size, 1, none⟩ = some (.int .i64 b) := by rw [← hW]; simp [go_sem]
        have hB0 : Below w5.heap.size w5 W0 := by rw [← hW]; go_grown
        have hX0 := nextW hX5 hB0
        have hz0 := lt_of_cell e0
        clear hW
        refine wp_region_HT (S := (fun w' : World => w'.cell? ⟨w5.heap.size, 0, none⟩ = some (.int .i64 a) ∧ w'.cell? ⟨w5.heap.size, 1, none⟩ = some (.int .i64 b))) 5 (by kernel_rfl) (by kernel_rfl) ?_
        have hS0 : (fun w' : World => w'.cell? ⟨w5.heap.size, 0, none⟩ = some (.int .i64 a) ∧ w'.cell? ⟨w5.heap.size, 1, none⟩ = some (.int .i64 b)) _ := ⟨e0, e1⟩
        refine HT.take' (i := 0) (v := ?_) rfl (by kernel_rfl) (by decide) (by kernel_rfl) (by kernel_rfl) (fun _ _ _ h => h) (by rfl) (fun w' hS => ?_) hS0 ?_
        rotate_left
        focus
          obtain ⟨k0, k1⟩ := hS
          go_simp
          try with_reducible rfl
          done
        simp only [Act.put, List.setIfInBounds_toArray, List.set_cons_zero, List.set_cons_succ]
        refine HT.take' (i := 1) (v := ?_) rfl (by kernel_rfl) (by decide) (by kernel_rfl) (by kernel_rfl) (fun _ _ _ h => h) (by rfl) (fun w' hS => ?_) hS0 ?_
        rotate_left
        focus
          obtain ⟨k0, k1⟩ := hS
          go_simp
          try with_reducible rfl
          done
        simp only [Act.put, List.setIfInBounds_toArray, List.set_cons_zero, List.set_cons_succ]
        refine HT.one' (i := 2) rfl (by decide) (by kernel_rfl) (fun K hK => ?_)
        go_simp
        refine (raInt_any 0 _).mono ?_
        rintro e w6 ⟨rfl, hb⟩
        have hX6 : Below W0.heap.size W0 w6 := nextX (by go_grown) hb
        have k0 := cellB hX6 e0
        have k1 := cellB hX6 e1
        have HO6 := Lib.hid (OwP.keep HP2.out (nextW hX0 hX6))
        have HD6 := Lib.hid (HDS.out.grow (nextW hX0 hX6))
        have hz6 := HD6.out.but.size
        clear hb
        go_wp2_with fail
        refine hK _ _ ⟨k0, k1⟩ ?_
        clear hK
        try simp only [Act.put, List.setIfInBounds_toArray, List.set_cons_zero, List.set_cons_succ]
        have hS1 : (fun w' : World => w'.cell? ⟨w5.heap.size, 0, none⟩ = some (.int .i64 a) ∧ w'.cell? ⟨w5.heap.size, 1, none⟩ = some (.int .i64 b)) _ := ⟨k0, k1⟩
        refine HT.take' (i := 3) (v := ?_) rfl (by kernel_rfl) (by decide) (by kernel_rfl) (by kernel_rfl) (fun _ _ _ h => h) (by rfl) (fun w' hS => ?_) hS1 ?_
        rotate_left
        focus
          obtain ⟨k0, k1⟩ := hS
          go_simp
          try with_reducible rfl
          done
        simp only [Act.put, List.setIfInBounds_toArray, List.set_cons_zero, List.set_cons_succ]
        refine HT.one' (i := 4) rfl (by decide) (by kernel_rfl) (fun K hK => ?_)
        go_simp
        refine hK _ _ ⟨cellA _ k0, cellA _ k1⟩ ?_
        clear hK
        try simp only [Act.put, List.setIfInBounds_toArray, List.set_cons_zero, List.set_cons_succ]
        refine HT.done (by kernel_rfl) ?_
        simp only [List.drop_succ_cons, List.drop_zero]
        clear hS0 hS1 e0 e1 k0 k1
        go_wp2_with (at_builtin; refine append_p1 _ rfl _ _ rfl w.heap.size _ qs rfl (HO6.out.keep (by go_grown)) w6.heap.size _ a b 0 1 rfl ?c0 ?c1 ?c2 ?c3 ?len ?base ?_)
        case c0 => simp [go_sem]
        case c1 => simp [go_sem]
        case c2 => simp [go_sem]
        case c3 => simp [go_sem]
        case len => omega
        case base => go_size
        intro v' w' hown h7
        have HD7 := Lib.hid (DS.low (HD6.out.grow (by go_grown)) HD0.out.code h7 hg)
        have HO7 := Lib.hid hown
        have hl7 : lenOf v' = qs.length + 1 := by obtain ⟨A7, c7, h7, -, -⟩ := ownsRow_slice hown; rw [h7]; simp [lenOf]
        clear hown h7
        go_wp2_with fail
        go_roundw
        case rel => exact ⟨qs ++ [((a, b), (0, 1))], HO7.out, by simp; omega, HD7.out⟩
        case measure => simp only [lenOf] at hl7 ⊢; omega
      · have c0 : ¬ ((qs.length : Nat) : Int) < 13 := by omega
        have c0' : decide (((qs.length : Nat) : Int) < 13) = false := decide_eq_false c0
        go_wp2_with fail
        go_ret
        exact ⟨_, qs, rfl, HP2.out, by omega, HDS.out.cur.more (by omega), HDS.out.but⟩
  have e0 : (s == 0) = false := by simpa using x0
  have e1 : (s == 1) = false := by simpa using x1
  have e2 : (s == 2) = false := by simpa using x2
  have e3 : (s == 3) = false := by simpa using x3
  have e4 : (s == 4) = false := by simpa using x4
  go_wp2_with fail
  go_ret
  exact ⟨_, ps, rfl, HR3.out, by omega, HD3.out.cur.more (by omega), HD3.out.but⟩

end Go.Proofs.Ytkeajfgcjmhmiaa
