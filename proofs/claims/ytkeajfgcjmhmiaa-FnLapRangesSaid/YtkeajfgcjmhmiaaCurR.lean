/- Drawn fractions: rat, anyRat, DrawAddRats. -/
import Derived.Test.YtkeajfgcjmhmiaaCur
import Derived.Test.YtkeajfgcjmhmiaaHeadTail
namespace Go.Proofs.Ytkeajfgcjmhmiaa
open Go.RowKit

theorem RdN.made (k : IntKind) (X : World) (xs : List Int) (ty : TypeId) (hn : xs.length ≤ maxLen) : RdN k (X.alloc (.cells ((xs.map (Value.int k)).toArray) ty)) (.slice (some ⟨X.heap.size, 0, none⟩) xs.length xs.length) xs := by
  refine ⟨_, _, rfl, Nat.le_refl _, hn, fun _ => ⟨_, _, rfl, by simp, fun i x hx => ?_⟩⟩
  rw [World.cell?_alloc_new]
  simp [hx]
def I64 (x : Int) : Prop := -9223372036854775808 ≤ x ∧ x ≤ 9223372036854775807
/-- Where a walk with a cursor stands: the cursor, its bytes, and what is as it was at the walk's start. -/
structure DS (g : Nat) (v : Value) (n : Nat) (w0 w : World) : Prop where
  cur : Cur g v n w
  code : Code g w v
  but : But g w0 w
theorem DS.start {g n : Nat} {v : Value} {w : World} (h : Cur g v n w) (k : Code g w v) : DS g v n w w := ⟨h, k, But.refl _ _⟩
theorem DS.step {g n m : Nat} {v : Value} {w0 w W w1 : World} (h : DS g v n w0 w) (hX : Below w.heap.size w W) (hc : Cur g v m w1) (hb : But g W w1) : DS g v m w0 w1 :=
  have hb2 : But g w w1 := (But.of_below hX (Nat.le_refl _)).trans hb
  ⟨hc, h.code.keepU hb2, h.but.trans hb2⟩
theorem DS.grow {g n : Nat} {v : Value} {w0 w W : World} (h : DS g v n w0 w) (hX : Below w.heap.size w W) : DS g v n w0 W :=
  ⟨h.cur.keep hX, h.code.keep hX, h.but.trans (But.of_below hX (Nat.le_refl _))⟩
theorem DS.lt {g n : Nat} {v : Value} {w0 w : World} (h : DS g v n w0 w) : g < w.heap.size := lt_of_cell h.cur.code.1
/-- A slot that lay in another block than the cursor's. -/
theorem DS.slot {g b o : Nat} {w W w1 : World} {u : Value} (hX : Below w.heap.size w W) (hb : But g W w1) (hn : b ≠ g) (h : Slot w b o u) : Slot w1 b o u := slotU hb hn (slotB hX h)
theorem Cur.setO {g n k o : Nat} {v : Value} {w : World} (h : Cur g v n w) (hk : k ≠ g) (u : Value) : Cur g v n (w.setCell ⟨k, o, none⟩ u) := by
  obtain ⟨h1, ⟨a, ha, h2⟩, s, s0, s1, h3⟩ := h
  have ne : ∀ j : Nat, (k, o) ≠ (g, j) := fun j he => hk (Prod.mk.inj he).1
  exact ⟨slotS h1 (ne _), ⟨a, ha, slotS h2 (ne _)⟩, s, s0, s1, slotS h3 (ne _)⟩
theorem Cur.alloc {g n : Nat} {v : Value} {w : World} (h : Cur g v n w) (x : Obj) : Cur g v n (w.alloc x) := h.keep ((Below.refl _ _).alloc (Nat.le_refl _) x)
/-- What a draw of a fraction leaves. -/
def RatDrew (g : Nat) (v : Value) (m : Nat) (w : World) (e : Ending) (w' : World) : Prop := ∃ a b : Int, e = .returned (.agg #[.int .i64 a, .int .i64 b]) ∧ (I64 a ∧ I64 b) ∧ Cur g v m w' ∧ But g w w'
theorem lowQ_i64 {n d a b : Int} {t : Bool} (h : lowQ n d = (a, b, t)) : I64 a ∧ I64 b := by
  cases t with
  | true =>
    have := okQ_bd ((lowQ_ok h).1 rfl)
    unfold I64; omega
  | false =>
    obtain ⟨rfl, rfl⟩ := (lowQ_ok h).2 rfl
    unfold I64; omega

/-- What a draw of a valid fraction leaves. -/
def RatOk (g : Nat) (v : Value) (m : Nat) (w : World) (e : Ending) (w' : World) : Prop := ∃ a b : Int, e = .returned (.agg #[.int .i64 a, .int .i64 b]) ∧ okQ a b = true ∧ Cur g v m w' ∧ But g w w'

set_option maxHeartbeats 3200000 in
theorem rat_ok (g : Nat) (v : Value) (n : Nat) (w : World) (hc : Cur g v n w) (hv : Code g w v) (hn : n + 20 ≤ 1000000000) :
    Calls Try.prog 79 #[.pointer (some ⟨g, 0, none⟩)] w (RatOk g v (n + 12) w) := by
  have hg := lt_of_cell hc.code.1
  have HD := Lib.hid (DS.start hc hv)
  clear hc hv
  go_enter Try.func79, Try.ntmps79
  go_wp2_with fail
  refine (pick_is g v _ 41 _ (HD.out.cur.keep (by go_grown)) (HD.out.code.keep (by go_grown)) (by omega) (by omega)).mono ?_
  rintro e w1 ⟨x, rfl, hx, hc, hb⟩
  have HD1 := Lib.hid (HD.out.step (by go_grown) hc hb)
  have q0 : Slot w1 w.heap.size 0 (.int .i64 0) := slotU hb (by omega) ⟨by simp [go_sem], by simp [go_sem]⟩
  have q1 : Slot w1 w.heap.size 1 (.int .i64 0) := slotU hb (by omega) ⟨by simp [go_sem], by simp [go_sem]⟩
  have vx : IntKind.i64.wrap (x - 20) = x - 20 := IntWalk.i64_in _ (by omega)
  clear hc hb
  have gl1 := HD1.out.lt
  go_wp2_with fail
  refine (pick_is g v _ 2001 _ (HD1.out.cur.keep (by go_grown)) (HD1.out.code.keep (by go_grown)) (by omega) (by omega)).mono ?_
  rintro e w2 ⟨y, rfl, hy, hc, hb⟩
  have HD2 := Lib.hid (HD1.out.step (by go_grown) hc hb)
  replace q0 := DS.slot (by go_grown) hb (by omega) q0
  replace q1 := DS.slot (by go_grown) hb (by omega) q1
  have vy : IntKind.i64.wrap (y - 1000) = y - 1000 := IntWalk.i64_in _ (by omega)
  clear hc hb
  have gl2 := HD2.out.lt
  go_wp2_with fail
  refine (among_is g v _ [0, 1, 2, 3, -1, -5, x - 20, y - 1000, 1000000000, -1000000000] _ _ (HD2.out.cur.keep (by go_grown)) (HD2.out.code.keep (by go_grown)) (by omega) (RdN.made .i64 _ [0, 1, 2, 3, -1, -5, x - 20, y - 1000, 1000000000, -1000000000] _ (by simp [maxLen])) (by intro b o n c h; injection h with h; injection h with h; injection h with h; omega) (by simp)).mono ?_
  rintro e w3 ⟨z, rfl, hz, hc, hb⟩
  have HD3 := Lib.hid (HD2.out.step (by go_grown) hc hb)
  replace q0 := DS.slot (by go_grown) hb (by omega) q0
  replace q1 := DS.slot (by go_grown) hb (by omega) q1
  have bz : -1000000000 ≤ z ∧ z ≤ 1000000000 := by simp at hz; omega
  clear hc hb
  have gl3 := HD3.out.lt
  go_wp2_with fail
  refine (pick_is g v _ 20 _ (HD3.out.cur.keep (by go_grown)) (HD3.out.code.keep (by go_grown)) (by omega) (by omega)).mono ?_
  rintro e w4 ⟨x2, rfl, hx2, hc, hb⟩
  have HD4 := Lib.hid (HD3.out.step (by go_grown) hc hb)
  replace q0 := DS.slot (by go_grown) hb (by omega) q0
  replace q1 := DS.slot (by go_grown) hb (by omega) q1
  have vx2 : IntKind.i64.wrap (1 + x2) = 1 + x2 := IntWalk.i64_in _ (by omega)
  clear hc hb
  have gl4 := HD4.out.lt
  go_wp2_with fail
  refine (pick_is g v _ 1000 _ (HD4.out.cur.keep (by go_grown)) (HD4.out.code.keep (by go_grown)) (by omega) (by omega)).mono ?_
  rintro e w5 ⟨y2, rfl, hy2, hc, hb⟩
  have HD5 := Lib.hid (HD4.out.step (by go_grown) hc hb)
  replace q0 := DS.slot (by go_grown) hb (by omega) q0
  replace q1 := DS.slot (by go_grown) hb (by omega) q1
  have vy2 : IntKind.i64.wrap (1 + y2) = 1 + y2 := IntWalk.i64_in _ (by omega)
  clear hc hb
  have gl5 := HD5.out.lt
  go_wp2_with fail
  refine (among_is g v _ [1, 2, 3, 4, 8, 7, 1 + x2, 1 + y2, 1000000000, 999999999] _ _ (HD5.out.cur.keep (by go_grown)) (HD5.out.code.keep (by go_grown)) (by omega) (RdN.made .i64 _ [1, 2, 3, 4, 8, 7, 1 + x2, 1 + y2, 1000000000, 999999999] _ (by simp [maxLen])) (by intro b o n c h; injection h with h; injection h with h; injection h with h; omega) (by simp)).mono ?_
  rintro e w6 ⟨d, rfl, hd, hc, hb⟩
  have HD6 := Lib.hid (HD5.out.step (by go_grown) hc hb)
  replace q0 := DS.slot (by go_grown) hb (by omega) q0
  replace q1 := DS.slot (by go_grown) hb (by omega) q1
  have bd : 1 ≤ d ∧ d ≤ 1000000000 := by simp at hd; omega
  clear hc hb
  have gl6 := HD6.out.lt
  obtain ⟨⟨a, b, t⟩, hq⟩ : ∃ r, lowQ z d = r := ⟨_, rfl⟩
  have HQ := Lib.hid hq
  clear hx hy hz hx2 hy2 hd vx vy vx2 vy2
  go_wp2_with fail
  refine (raMake_any z d a b t hq (by omega) (by omega) _).mono ?_
  rintro e w7 ⟨rfl, hb⟩
  have hX : Below w6.heap.size w6 w7 := nextX (by go_grown) hb
  replace q0 := slotB hX q0
  replace q1 := slotB hX q1
  have HD7 := Lib.hid (HD6.out.grow hX)
  have zq := lt_of_cell q0.1
  clear hb hX
  have gl7 := HD7.out.lt
  rcases t with _ | _
  · go_wp2_with fail
    refine (raInt_any 1 _).mono ?_
    rintro e w8 ⟨rfl, hb⟩
    have hX : Below w7.heap.size w7 w8 := nextX (by go_grown) hb
    replace q0 := slotB hX q0
    replace q1 := slotB hX q1
    have HD8 := Lib.hid (HD7.out.grow hX)
    clear hb hX
    have zq8 := lt_of_cell q0.1
    obtain ⟨p0, f0⟩ := q0
    obtain ⟨p1, f1⟩ := q1
    go_wp2_with fail
    refine bodyPost_ret (v := .agg #[.int .i64 1, .int .i64 1]) (by simp [results, Try.results79, go_sem, p0, p1]) rfl ⟨1, 1, rfl, by decide, ?_, ?_⟩
    · exact ((HD8.out.cur.setO (by omega) _).setO (by omega) _).more (by omega)
    · exact (HD8.out.but.setNew (Nat.le_refl _) _).setNew (Nat.le_refl _) _
  · have s0 := trivial
    obtain ⟨p0, f0⟩ := q0
    obtain ⟨p1, f1⟩ := q1
    go_wp2_with fail
    refine bodyPost_ret (v := .agg #[.int .i64 a, .int .i64 b]) (by simp [results, Try.results79, go_sem, p0, p1, zq]) rfl ⟨a, b, rfl, (lowQ_ok HQ.out).1 rfl, ?_, ?_⟩
    · exact (((HD7.out.cur.setO (by omega) _).setO (by omega) _).alloc _).more (by omega)
    · exact ((HD7.out.but.setNew (Nat.le_refl _) _).setNew (Nat.le_refl _) _).alloc _
theorem rat_is (g : Nat) (v : Value) (n : Nat) (w : World) (hc : Cur g v n w) (hv : Code g w v) (hn : n + 20 ≤ 1000000000) :
    Calls Try.prog 79 #[.pointer (some ⟨g, 0, none⟩)] w (RatDrew g v (n + 12) w) :=
  (rat_ok g v n w hc hv hn).mono fun e w' ⟨a, b, he, ho, hc, hb⟩ => ⟨a, b, he, (by have := okQ_bd ho; unfold I64; omega), hc, hb⟩

set_option maxHeartbeats 6400000 in
theorem anyRat_is (g : Nat) (v : Value) (n : Nat) (w : World) (hc : Cur g v n w) (hv : Code g w v) (hn : n + 40 ≤ 1000000000) :
    Calls Try.prog 56 #[.pointer (some ⟨g, 0, none⟩)] w (RatDrew g v (n + 18) w) := by
  have hg := lt_of_cell hc.code.1
  have HD := Lib.hid (DS.start hc hv)
  clear hc hv
  go_enter Try.func56, Try.ntmps56
  go_wp2_with fail
  refine (rat_is g v _ _ (HD.out.cur.keep (by go_grown)) (HD.out.code.keep (by go_grown)) (by omega)).mono ?_
  rintro e w1 ⟨a, b, rfl, hab, hc, hb⟩
  have HD1 := Lib.hid (HD.out.step (by go_grown) hc hb)
  have q0 : Slot w1 w.heap.size 0 (.int .i64 0) := slotU hb (by omega) ⟨by simp [go_sem], by simp [go_sem]⟩
  have q1 : Slot w1 w.heap.size 1 (.int .i64 0) := slotU hb (by omega) ⟨by simp [go_sem], by simp [go_sem]⟩
  clear hc hb
  have gl1 := HD1.out.lt
  have zq1 := lt_of_cell q0.1
  go_wp2_with fail
  refine (pick_is g v _ 40 _ (HD1.out.cur.keep (by go_grown)) (HD1.out.code.keep (by go_grown)) (by omega) (by omega)).mono ?_
  rintro e w2 ⟨x, rfl, hx, hc, hb⟩
  have HD2 := Lib.hid (HD1.out.step (by go_grown) hc hb)
  replace q0 := DS.slot (by go_grown) hb (by omega) q0
  replace q1 := DS.slot (by go_grown) hb (by omega) q1
  have c0 : Slot w2 w1.heap.size 0 (.int .i64 a) := slotU hb (by omega) ⟨by simp [go_sem], by simp [go_sem]⟩
  have c1 : Slot w2 w1.heap.size 1 (.int .i64 b) := slotU hb (by omega) ⟨by simp [go_sem], by simp [go_sem]⟩
  clear hc hb
  have gl2 := HD2.out.lt
  have zq := lt_of_cell q0.1
  have zc := lt_of_cell c0.1
  by_cases x0 : x = 0
  · subst x0
    go_wp2_with fail
    refine (among_is g v _ [0, -1, 1000000001] _ _ (HD2.out.cur.keep (by go_grown)) (HD2.out.code.keep (by go_grown)) (by omega) (RdN.made .i64 _ [0, -1, 1000000001] _ (by simp [maxLen])) (by intro b o n c h; injection h with h; injection h with h; injection h with h; omega) (by simp)).mono ?_
    rintro e w3 ⟨d, rfl, hd, hc, hb⟩
    have HD3 := Lib.hid (HD2.out.step (by go_grown) hc hb)
    replace q0 := DS.slot (by go_grown) hb (by omega) q0
    replace q1 := DS.slot (by go_grown) hb (by omega) q1
    replace c0 := DS.slot (by go_grown) hb (by omega) c0
    replace c1 := DS.slot (by go_grown) hb (by omega) c1
    have bd : I64 d := by unfold I64; simp at hd; omega
    clear hc hb
    have zq3 := lt_of_cell q0.1
    have zc3 := lt_of_cell c0.1
    obtain ⟨p0, f0⟩ := q0
    obtain ⟨p1, f1⟩ := q1
    obtain ⟨r0, k0⟩ := c0
    obtain ⟨r1, k1⟩ := c1
    go_wp2_with fail
    refine bodyPost_ret (v := .agg #[.int .i64 a, .int .i64 d]) (by first | (simp [results, Try.results56, go_sem, p0, p1]; done) | (simp [results, Try.results56, go_sem, p0, p1, zq3]; done)) rfl ⟨a, d, rfl, ⟨hab.1, bd⟩, ?_, ?_⟩
    · exact (((HD3.out.cur.setO (by omega) _).setO (by omega) _).setO (by omega) _).more (by omega)
    · exact ((HD3.out.but.setNew (by omega) _).setNew (by omega) _).setNew (by omega) _
  · by_cases x1 : x = 1
    · subst x1
      go_wp2_with fail
      refine (among_is g v _ [1000000001, -1000000001, -9223372036854775808] _ _ (HD2.out.cur.keep (by go_grown)) (HD2.out.code.keep (by go_grown)) (by omega) (RdN.made .i64 _ [1000000001, -1000000001, -9223372036854775808] _ (by simp [maxLen])) (by intro b o n c h; injection h with h; injection h with h; injection h with h; omega) (by simp)).mono ?_
      rintro e w3 ⟨d, rfl, hd, hc, hb⟩
      have HD3 := Lib.hid (HD2.out.step (by go_grown) hc hb)
      replace q0 := DS.slot (by go_grown) hb (by omega) q0
      replace q1 := DS.slot (by go_grown) hb (by omega) q1
      replace c0 := DS.slot (by go_grown) hb (by omega) c0
      replace c1 := DS.slot (by go_grown) hb (by omega) c1
      have bd : I64 d := by unfold I64; simp at hd; omega
      clear hc hb
      have zq3 := lt_of_cell q0.1
      have zc3 := lt_of_cell c0.1
      obtain ⟨p0, f0⟩ := q0
      obtain ⟨p1, f1⟩ := q1
      obtain ⟨r0, k0⟩ := c0
      obtain ⟨r1, k1⟩ := c1
      go_wp2_with fail
      refine bodyPost_ret (v := .agg #[.int .i64 d, .int .i64 b]) (by first | (simp [results, Try.results56, go_sem, p0, p1]; done) | (simp [results, Try.results56, go_sem, p0, p1, zq3]; done)) rfl ⟨d, b, rfl, ⟨bd, hab.2⟩, ?_, ?_⟩
      · exact (((HD3.out.cur.setO (by omega) _).setO (by omega) _).setO (by omega) _).more (by omega)
      · exact ((HD3.out.but.setNew (by omega) _).setNew (by omega) _).setNew (by omega) _
    · by_cases x2 : x = 2
      · subst x2
        go_wp2_with fail
        refine (among_is g v _ [2, 0, -4] _ _ (HD2.out.cur.keep (by go_grown)) (HD2.out.code.keep (by go_grown)) (by omega) (RdN.made .i64 _ [2, 0, -4] _ (by simp [maxLen])) (by intro b o n c h; injection h with h; injection h with h; injection h with h; omega) (by simp)).mono ?_
        rintro e w3 ⟨d, rfl, hd, hc, hb⟩
        have HD3 := Lib.hid (HD2.out.step (by go_grown) hc hb)
        replace q0 := DS.slot (by go_grown) hb (by omega) q0
        replace q1 := DS.slot (by go_grown) hb (by omega) q1
        replace c0 := DS.slot (by go_grown) hb (by omega) c0
        replace c1 := DS.slot (by go_grown) hb (by omega) c1
        have bd : I64 d := by unfold I64; simp at hd; omega
        clear hc hb
        have gl3 := HD3.out.lt
        go_wp2_with fail
        refine (among_is g v _ [2, 4, 6] _ _ (HD3.out.cur.keep (by go_grown)) (HD3.out.code.keep (by go_grown)) (by omega) (RdN.made .i64 _ [2, 4, 6] _ (by simp [maxLen])) (by intro b o n c h; injection h with h; injection h with h; injection h with h; omega) (by simp)).mono ?_
        rintro e w4 ⟨d2, rfl, hd2, hc, hb⟩
        have HD4 := Lib.hid (HD3.out.step (by go_grown) hc hb)
        replace q0 := DS.slot (by go_grown) hb (by omega) q0
        replace q1 := DS.slot (by go_grown) hb (by omega) q1
        replace c0 := DS.slot (by go_grown) hb (by omega) c0
        replace c1 := DS.slot (by go_grown) hb (by omega) c1
        have bd2 : I64 d2 := by unfold I64; simp at hd2; omega
        clear hc hb
        have zq3 := lt_of_cell q0.1
        have zc3 := lt_of_cell c0.1
        obtain ⟨p0, f0⟩ := q0
        obtain ⟨p1, f1⟩ := q1
        obtain ⟨r0, k0⟩ := c0
        obtain ⟨r1, k1⟩ := c1
        go_wp2_with fail
        refine bodyPost_ret (v := .agg #[.int .i64 d, .int .i64 d2]) (by first | (simp [results, Try.results56, go_sem, p0, p1]; done) | (simp [results, Try.results56, go_sem, p0, p1, zq3]; done)) rfl ⟨d, d2, rfl, ⟨bd, bd2⟩, ?_, ?_⟩
        · exact ((((HD4.out.cur.setO (by omega) _).setO (by omega) _).setO (by omega) _).setO (by omega) _).more (by omega)
        · exact (((HD4.out.but.setNew (by omega) _).setNew (by omega) _).setNew (by omega) _).setNew (by omega) _
      · have e0 : (x == 0) = false := by simpa using x0
        have e1 : (x == 1) = false := by simpa using x1
        have e2 : (x == 2) = false := by simpa using x2
        obtain ⟨p0, f0⟩ := q0
        obtain ⟨p1, f1⟩ := q1
        obtain ⟨r0, k0⟩ := c0
        obtain ⟨r1, k1⟩ := c1
        go_wp2_with fail
        refine bodyPost_ret (v := .agg #[.int .i64 a, .int .i64 b]) (by first | (simp [results, Try.results56, go_sem, p0, p1]; done) | (simp [results, Try.results56, go_sem, p0, p1, zq]; done)) rfl ⟨a, b, rfl, ⟨hab.1, hab.2⟩, ?_, ?_⟩
        · exact ((HD2.out.cur.setO (by omega) _).setO (by omega) _).more (by omega)
        · exact (HD2.out.but.setNew (by omega) _).setNew (by omega) _


end Go.Proofs.Ytkeajfgcjmhmiaa
