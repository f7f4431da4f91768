/- Drawn pairs of maps: twoMaps, among2, DrawComposeMaps and its like, DrawPowerOfMap, DrawRefineMap, DrawIsBelow. -/
import Derived.Test.YtkeajfgcjmhmiaaGreatJ16
import Derived.Test.YtkeajfgcjmhmiaaGreatJ32
import Derived.Test.YtkeajfgcjmhmiaaGreatJ36
import Derived.Test.YtkeajfgcjmhmiaaGreatJ39
namespace Go.Proofs.YtkeajfgcjmhmiaaGreat
open Go.RowKit

/-- Two drawn rows of points, of any numbers. -/
def TwoRows (g : Nat) (v : Value) (m : Nat) (w : World) (e : Ending) (w' : World) : Prop := ∃ (r s : Value) (ps qs : List Pt), e = .returned (.tuple #[r, s]) ∧ OwP w.heap.size 51 w' r ps ∧ OwP w.heap.size 51 w' s qs ∧ (ps.length ≤ 62 ∧ qs.length ≤ 62) ∧ Cur g v m w' ∧ But g w w'
/-- .. what a law draws. -/
def TwoEnd (w : World) (e : Ending) (w' : World) : Prop := ∃ (r s : Value) (ps qs : List Pt), e = .returned (.tuple #[r, s]) ∧ OwP w.heap.size 51 w' r ps ∧ OwP w.heap.size 51 w' s qs ∧ (ps.length ≤ 62 ∧ qs.length ≤ 62) ∧ Below w.heap.size w w'
def RowIntEnd (w : World) (e : Ending) (w' : World) : Prop := ∃ (r : Value) (ps : List Pt) (n : Int), e = .returned (.tuple #[r, .int .i64 n]) ∧ OwP w.heap.size 51 w' r ps ∧ ps.length ≤ 62 ∧ (-1 ≤ n ∧ n ≤ 7) ∧ Below w.heap.size w w'
def RowQsEnd (w : World) (e : Ending) (w' : World) : Prop := ∃ (r s : Value) (ps : List Pt) (xs : List Q), e = .returned (.tuple #[r, s]) ∧ OwP w.heap.size 51 w' r ps ∧ OwQ w.heap.size 31 w' s xs ∧ (ps.length ≤ 62 ∧ xs.length ≤ 62) ∧ Below w.heap.size w w'
theorem refineQ_short {f : List Pt} {xs : List Q} {l : List Pt} {t : Bool} (h : refineQ f xs = (l, t)) : l.length ≤ 12 := by
  unfold refineQ refRes at h
  split at h
  · split at h
    · rename_i hh
      obtain ⟨rfl, -⟩ := Prod.mk.inj h
      simp only [Bool.and_eq_true] at hh
      exact (okMap_len hh.2).2
    · obtain ⟨rfl, -⟩ := Prod.mk.inj h; simp
  · obtain ⟨rfl, -⟩ := Prod.mk.inj h; simp
theorem madeQ_short {l m : List Pt} {t : Bool} (h : madeQ l = (m, t)) : m.length ≤ 12 := by
  unfold madeQ at h
  split at h
  · rename_i hh
    obtain ⟨rfl, -⟩ := Prod.mk.inj h
    exact (okMap_len hh.2).2
  · obtain ⟨rfl, -⟩ := Prod.mk.inj h; simp
theorem clampQ_short {f m : List Pt} {lo hi : Q} {t : Bool} (h : clampQ f lo hi = (m, t)) : m.length ≤ 12 := by
  unfold clampQ at h
  split at h
  · split at h
    · exact madeQ_short h
    · obtain ⟨rfl, -⟩ := Prod.mk.inj h; simp
  · obtain ⟨rfl, -⟩ := Prod.mk.inj h; simp

set_option maxRecDepth 100000 in
set_option maxHeartbeats 6400000 in
theorem twoMaps_is (g : Nat) (v : Value) (n : Nat) (w : World) (hc : Cur g v n w) (hv : Code g w v) (hn : n + 3000 ≤ 1000000000) :
    Calls Tryz.prog 66 #[.pointer (some ⟨g, 0, none⟩)] w (TwoRows g v (n + 1000) w) := by
  have hg := lt_of_cell hc.code.1
  have HD := Lib.hid (DS.start hc hv)
  clear hc hv
  go_enter Tryz.func66, Tryz.ntmps66
  go_wp2_with fail
  refine (one_is g v _ 4 _ (HD.out.cur.keep (by go_grown)) (HD.out.code.keep (by go_grown)) (by omega) (by omega)).mono ?_
  rintro e w1 ⟨b, rfl, hc, hb⟩
  have HD_1 := Lib.hid (HD.out.step (by go_grown) hc hb)
  have gl1 := HD_1.out.lt
  have hz1 := HD_1.out.but.size
  clear hc hb
  rcases b with _ | _
  · go_wp2_with fail
    refine (among_is g v _ [2, 3, 4] _ _ (HD_1.out.cur.keep (by go_grown)) (HD_1.out.code.keep (by go_grown)) (by omega) (RdN.made .i64 _ [2, 3, 4] _ (by simp [maxLen])) (by intro b o n c h; injection h with h; injection h with h; injection h with h; omega) (by simp)).mono ?_
    rintro e w2 ⟨N, rfl, hm, hc, hb⟩
    have HD_2 := Lib.hid (HD_1.out.step (by go_grown) hc hb)
    have bN : 2 ≤ N ∧ N ≤ 4 := by simp at hm; omega
    clear hm
    have gl2 := HD_2.out.lt
    have hz2 := HD_2.out.but.size
    clear hc hb
    go_wp2_with fail
    refine (imGrid_is g v _ N _ (HD_2.out.cur.keep (by go_grown)) (HD_2.out.code.keep (by go_grown)) (by omega) (by omega)).mono ?_
    rintro e w3 ⟨r, ps, rfl, hr, hpl, hpo, hc, hb⟩
    have HD_3 := Lib.hid (HD_2.out.step (by go_grown) hc hb)
    clear hpo
    have HR3 := Lib.hid (hr.low (b := w.heap.size) (by first | go_size | (simp; done) | (simp; omega) | omega))
    clear hr
    have gl3 := HD_3.out.lt
    have hz3 := HD_3.out.but.size
    clear hc hb
    go_wp2_with fail
    refine (pick_is g v _ 8 _ (HD_3.out.cur.keep (by go_grown)) (HD_3.out.code.keep (by go_grown)) (by omega) (by omega)).mono ?_
    rintro e w4 ⟨s, rfl, hs, hc, hb⟩
    have HD_4 := Lib.hid (HD_3.out.step (by go_grown) hc hb)
    have HR4 := Lib.hid ((OwP.keep HR3.out (by go_grown)).keepU hb (fun h => by have := HR3.out.blk _ h; omega))
    have gl4 := HD_4.out.lt
    have hz4 := HD_4.out.but.size
    clear hc hb
    by_cases x0 : s = 0
    · subst x0
      clear hs
      go_wp2_with fail
      go_ret2
      exact ⟨_, _, ps, ps, rfl, HR4.out, HR4.out, by omega, HD_4.out.cur.more (by omega), HD_4.out.but⟩
    by_cases x1 : s = 1
    · subst x1
      clear hs
      go_wp2_with fail
      refine (gridRat_is g v _ 8 _ (HD_4.out.cur.keep (by go_grown)) (HD_4.out.code.keep (by go_grown)) (by omega) (by omega)).mono ?_
      rintro e w5 ⟨a, c, rfl, hab, hc, hb⟩
      have HD_5 := Lib.hid (HD_4.out.step (by go_grown) hc hb)
      have HR5 := Lib.hid ((OwP.keep HR4.out (by go_grown)).keepU hb (fun h => by have := HR4.out.blk _ h; omega))
      clear hab
      have gl5 := HD_5.out.lt
      have hz5 := HD_5.out.but.size
      clear hc hb
      obtain ⟨l, t, hq⟩ : ∃ l t, refineQ ps [(a, c)] = (l, t) := ⟨_, _, rfl⟩
      have hqs := refineQ_short hq
      have HQ := Lib.hid hq
      clear hq
      go_wp2_with fail
      refine (sRefineMap_is ps [(a, c)] _ _ l t HQ.out _ (HR5.out.read.keep (by go_grown)) ((OwQ.one w5 0 31 a c (Nat.zero_le _)).read.keep (Below.refl _ _)) (by omega) (by simp)).mono ?_
      rintro e w6 ⟨r2, rfl, hr, hb⟩
      have hX6 : Below w5.heap.size w5 w6 := nextX (by go_grown) hb
      have HD_6 := Lib.hid (HD_5.out.grow hX6)
      have HR6 := Lib.hid (OwP.keep HR5.out hX6)
      have HR26 := Lib.hid (hr.low (b := w.heap.size) (by first | go_size | (simp; done) | (simp; omega) | omega))
      clear hr
      have gl6 := HD_6.out.lt
      have hz6 := HD_6.out.but.size
      clear hb
      rcases t with _ | _
      · go_wp2_with fail
        refine (among_is g v _ [2, 3, 4] _ _ (HD_6.out.cur.keep (by go_grown)) (HD_6.out.code.keep (by go_grown)) (by omega) (RdN.made .i64 _ [2, 3, 4] _ (by simp [maxLen])) (by intro b o n c h; injection h with h; injection h with h; injection h with h; omega) (by simp)).mono ?_
        rintro e w7 ⟨N2, rfl, hm, hc, hb⟩
        have HD_7 := Lib.hid (HD_6.out.step (by go_grown) hc hb)
        have HR7 := Lib.hid ((OwP.keep HR6.out (by go_grown)).keepU hb (fun h => by have := HR6.out.blk _ h; omega))
        have HR27 := Lib.hid ((OwP.keep HR26.out (by go_grown)).keepU hb (fun h => by have := HR26.out.blk _ h; omega))
        have bN2 : 2 ≤ N2 ∧ N2 ≤ 4 := by simp at hm; omega
        clear hm
        have gl7 := HD_7.out.lt
        have hz7 := HD_7.out.but.size
        clear hc hb
        go_wp2_with fail
        refine (imGrid_is g v _ N2 _ (HD_7.out.cur.keep (by go_grown)) (HD_7.out.code.keep (by go_grown)) (by omega) (by omega)).mono ?_
        rintro e w8 ⟨r2, qs, rfl, hr, hql, hpo, hc, hb⟩
        have HD_8 := Lib.hid (HD_7.out.step (by go_grown) hc hb)
        have HR8 := Lib.hid ((OwP.keep HR7.out (by go_grown)).keepU hb (fun h => by have := HR7.out.blk _ h; omega))
        have HR28 := Lib.hid ((OwP.keep HR27.out (by go_grown)).keepU hb (fun h => by have := HR27.out.blk _ h; omega))
        clear hpo
        have HR28 := Lib.hid (hr.low (b := w.heap.size) (by first | go_size | (simp; done) | (simp; omega) | omega))
        clear hr
        have gl8 := HD_8.out.lt
        have hz8 := HD_8.out.but.size
        clear hc hb
        go_wp2_with fail
        go_ret2
        exact ⟨_, _, ps, qs, rfl, HR8.out, HR28.out, by omega, HD_8.out.cur.more (by omega), HD_8.out.but⟩
      · go_wp2_with fail
        go_ret2
        exact ⟨_, _, ps, l, rfl, HR6.out, HR26.out, by omega, HD_6.out.cur.more (by omega), HD_6.out.but⟩
    by_cases x2 : s = 2
    · subst x2
      clear hs
      go_wp2_with fail
      refine (coSame_is _).mono ?_
      rintro e w5 ⟨r2, rfl, hr, hb⟩
      have hX5 : Below w4.heap.size w4 w5 := nextX (by go_grown) hb
      have HD_5 := Lib.hid (HD_4.out.grow hX5)
      have HR5 := Lib.hid (OwP.keep HR4.out hX5)
      have HR25 := Lib.hid (hr.low (b := w.heap.size) (by first | go_size | (simp; done) | (simp; omega) | omega))
      clear hr
      have gl5 := HD_5.out.lt
      have hz5 := HD_5.out.but.size
      clear hb
      go_wp2_with fail
      go_ret2
      exact ⟨_, _, ps, sameL, rfl, HR5.out, HR25.out, ⟨by omega, by decide⟩, HD_5.out.cur.more (by omega), HD_5.out.but⟩
    · have e0 : (s == 0) = false := by simpa using x0
      have e1 : (s == 1) = false := by simpa using x1
      have e2 : (s == 2) = false := by simpa using x2
      go_wp2_with fail
      refine (among_is g v _ [2, 3, 4] _ _ (HD_4.out.cur.keep (by go_grown)) (HD_4.out.code.keep (by go_grown)) (by omega) (RdN.made .i64 _ [2, 3, 4] _ (by simp [maxLen])) (by intro b o n c h; injection h with h; injection h with h; injection h with h; omega) (by simp)).mono ?_
      rintro e w5 ⟨N2, rfl, hm, hc, hb⟩
      have HD_5 := Lib.hid (HD_4.out.step (by go_grown) hc hb)
      have HR5 := Lib.hid ((OwP.keep HR4.out (by go_grown)).keepU hb (fun h => by have := HR4.out.blk _ h; omega))
      have bN2 : 2 ≤ N2 ∧ N2 ≤ 4 := by simp at hm; omega
      clear hm
      have gl5 := HD_5.out.lt
      have hz5 := HD_5.out.but.size
      clear hc hb
      go_wp2_with fail
      refine (imGrid_is g v _ N2 _ (HD_5.out.cur.keep (by go_grown)) (HD_5.out.code.keep (by go_grown)) (by omega) (by omega)).mono ?_
      rintro e w6 ⟨r2, qs, rfl, hr, hql, hpo, hc, hb⟩
      have HD_6 := Lib.hid (HD_5.out.step (by go_grown) hc hb)
      have HR6 := Lib.hid ((OwP.keep HR5.out (by go_grown)).keepU hb (fun h => by have := HR5.out.blk _ h; omega))
      clear hpo
      have HR26 := Lib.hid (hr.low (b := w.heap.size) (by first | go_size | (simp; done) | (simp; omega) | omega))
      clear hr
      have gl6 := HD_6.out.lt
      have hz6 := HD_6.out.but.size
      clear hc hb
      go_wp2_with fail
      go_ret2
      exact ⟨_, _, ps, qs, rfl, HR6.out, HR26.out, by omega, HD_6.out.cur.more (by omega), HD_6.out.but⟩
  · go_wp2_with fail
    refine (anyIm_is g v _ _ (HD_1.out.cur.keep (by go_grown)) (HD_1.out.code.keep (by go_grown)) (by omega)).mono ?_
    rintro e w2 ⟨r, ps, rfl, hr, hpl, hc, hb⟩
    have HD_2 := Lib.hid (HD_1.out.step (by go_grown) hc hb)
    have HR2 := Lib.hid (hr.low (b := w.heap.size) (by first | go_size | (simp; done) | (simp; omega) | omega))
    clear hr
    have gl2 := HD_2.out.lt
    have hz2 := HD_2.out.but.size
    clear hc hb
    go_wp2_with fail
    refine (anyIm_is g v _ _ (HD_2.out.cur.keep (by go_grown)) (HD_2.out.code.keep (by go_grown)) (by omega)).mono ?_
    rintro e w3 ⟨r2, qs, rfl, hr, hql, hc, hb⟩
    have HD_3 := Lib.hid (HD_2.out.step (by go_grown) hc hb)
    have HR3 := Lib.hid ((OwP.keep HR2.out (by go_grown)).keepU hb (fun h => by have := HR2.out.blk _ h; omega))
    have HR23 := Lib.hid (hr.low (b := w.heap.size) (by first | go_size | (simp; done) | (simp; omega) | omega))
    clear hr
    have gl3 := HD_3.out.lt
    have hz3 := HD_3.out.but.size
    clear hc hb
    go_wp2_with fail
    go_ret2
    exact ⟨_, _, ps, qs, rfl, HR3.out, HR23.out, by omega, HD_3.out.cur.more (by omega), HD_3.out.but⟩

set_option maxRecDepth 100000 in
set_option maxHeartbeats 3200000 in
theorem among2_is (g : Nat) (v : Value) (n : Nat) (base : Nat) (u : Value) (ps : List Pt) (w : World) (hc : Cur g v n w) (hv : Code g w v) (hu : OwP base 51 w u ps) (hbg : g < base) (hl : ps.length ≤ 62) (hn : n + 200 ≤ 1000000000) :
    Calls Tryz.prog 98 #[.pointer (some ⟨g, 0, none⟩), u] w (RatAny g v (n + 30) w) := by
  have hg := lt_of_cell hc.code.1
  have HD := Lib.hid (DS.start hc hv)
  have HU := Lib.hid hu
  clear hc hv hu
  go_enter Tryz.func98, Tryz.ntmps98
  go_wp2_with fail
  refine (one_is g v _ 6 _ (HD.out.cur.keep (by go_grown)) (HD.out.code.keep (by go_grown)) (by omega) (by omega)).mono ?_
  rintro e w1 ⟨b, rfl, hc, hb⟩
  have q0 : Slot w1 w.heap.size 0 (.int .i64 0) := slotU hb (by omega) ⟨by simp [go_sem], by simp [go_sem]⟩
  have q1 : Slot w1 w.heap.size 1 (.int .i64 0) := slotU hb (by omega) ⟨by simp [go_sem], by simp [go_sem]⟩
  have HD_1 := Lib.hid (HD.out.step (by go_grown) hc hb)
  have HU1 := Lib.hid ((OwP.keep HU.out (by go_grown)).keepU hb (fun h => by have := HU.out.blk _ h; omega))
  have gl1 := HD_1.out.lt
  have hz1 := HD_1.out.but.size
  clear hc hb
  rcases b with _ | _
  · go_wp2_with fail
    refine (among_is g v _ [2, 4, 8] _ _ (HD_1.out.cur.keep (by go_grown)) (HD_1.out.code.keep (by go_grown)) (by omega) (RdN.made .i64 _ [2, 4, 8] _ (by simp [maxLen])) (by intro b o n c h; injection h with h; injection h with h; injection h with h; omega) (by simp)).mono ?_
    rintro e w2 ⟨N, rfl, hm, hc, hb⟩
    have HD_2 := Lib.hid (HD_1.out.step (by go_grown) hc hb)
    have HU2 := Lib.hid ((OwP.keep HU1.out (by go_grown)).keepU hb (fun h => by have := HU1.out.blk _ h; omega))
    replace q0 := DS.slot (by go_grown) hb (by omega) q0
    replace q1 := DS.slot (by go_grown) hb (by omega) q1
    have bN : 2 ≤ N ∧ N ≤ 8 := by simp at hm; omega
    clear hm
    have gl2 := HD_2.out.lt
    have hz2 := HD_2.out.but.size
    clear hc hb
    go_wp2_with fail
    refine (gridRat_is g v _ N _ (HD_2.out.cur.keep (by go_grown)) (HD_2.out.code.keep (by go_grown)) (by omega) (by omega)).mono ?_
    rintro e w3 ⟨a, c, rfl, hab, hc, hb⟩
    have HD_3 := Lib.hid (HD_2.out.step (by go_grown) hc hb)
    have HU3 := Lib.hid ((OwP.keep HU2.out (by go_grown)).keepU hb (fun h => by have := HU2.out.blk _ h; omega))
    replace q0 := DS.slot (by go_grown) hb (by omega) q0
    replace q1 := DS.slot (by go_grown) hb (by omega) q1
    clear hab
    have gl3 := HD_3.out.lt
    have hz3 := HD_3.out.but.size
    clear hc hb
    have zq := lt_of_cell q0.1
    obtain ⟨p0, f0⟩ := q0
    obtain ⟨p1, f1⟩ := q1
    go_wp2_with fail
    refine bodyPost_ret (v := .agg #[.int .i64 a, .int .i64 c]) (by first | (simp [results, Tryz.results98, go_sem, p0, p1]; done) | (simp [results, Tryz.results98, go_sem, p0, p1, zq]; done)) rfl ⟨a, c, rfl, ?_, ?_⟩
    · exact ((HD_3.out.cur.setO (by omega) _).setO (by omega) _).more (by omega)
    · exact (HD_3.out.but.setNew (Nat.le_refl _) _).setNew (Nat.le_refl _) _
  · go_wp2_with fail
    refine (xOf_is g v _ base _ ps _ (HD_1.out.cur.keep (by go_grown)) (HD_1.out.code.keep (by go_grown)) (OwP.keep HU1.out (by go_grown)) (by omega) (by omega) (by omega)).mono ?_
    rintro e w2 ⟨a, c, rfl, hc, hb⟩
    have HD_2 := Lib.hid (HD_1.out.step (by go_grown) hc hb)
    have HU2 := Lib.hid ((OwP.keep HU1.out (by go_grown)).keepU hb (fun h => by have := HU1.out.blk _ h; omega))
    replace q0 := DS.slot (by go_grown) hb (by omega) q0
    replace q1 := DS.slot (by go_grown) hb (by omega) q1
    have gl2 := HD_2.out.lt
    have hz2 := HD_2.out.but.size
    clear hc hb
    have zq := lt_of_cell q0.1
    obtain ⟨p0, f0⟩ := q0
    obtain ⟨p1, f1⟩ := q1
    go_wp2_with fail
    refine bodyPost_ret (v := .agg #[.int .i64 a, .int .i64 c]) (by first | (simp [results, Tryz.results98, go_sem, p0, p1]; done) | (simp [results, Tryz.results98, go_sem, p0, p1, zq]; done)) rfl ⟨a, c, rfl, ?_, ?_⟩
    · exact ((HD_2.out.cur.setO (by omega) _).setO (by omega) _).more (by omega)
    · exact (HD_2.out.but.setNew (Nat.le_refl _) _).setNew (Nat.le_refl _) _

set_option maxRecDepth 100000 in
set_option maxHeartbeats 1600000 in
theorem drawCompose_is (v : Value) (bs : List Int) (w : World) (hv : RdN .u8 w v bs) (hb : ∀ x ∈ bs, 0 ≤ x ∧ x ≤ 255) :
    Calls Tryz.prog 8 #[v] w (TwoEnd w) := by
  have HV := Lib.hid hv
  have HBs := Lib.hid hb
  obtain ⟨A, cv, rfl, hl, hm, hcell⟩ := hv
  clear hb hcell
  go_enter Tryz.func8, Tryz.ntmps8
  go_wp2_with fail
  refine (twoMaps_is w.heap.size _ 0 _ ⟨⟨by simp [go_sem], by simp [go_sem]⟩, ⟨0, Nat.le_refl _, by simp [go_sem], by simp [go_sem]⟩, 0, by omega, by omega, by simp [go_sem], by simp [go_sem]⟩ (HV.out.codeF HBs.out (by go_grown) (by omega)) (by omega)).mono ?_
  rintro e w1 ⟨r, s, ps, qs, rfl, hr, hs, hpl, hc, hb⟩
  have hB1 : Below w.heap.size w w1 := But.below (by go_grown : Below w.heap.size w _) hb (by omega) (by go_size)
  have HD_1 := Lib.hid (DS.start hc (Code.keepU (HV.out.codeF HBs.out (by go_grown) (by omega)) hb))
  have HR1 := Lib.hid (hr.low (b := w.heap.size + 1) (by first | go_size | (simp; done) | (simp; omega)))
  clear hr
  have HS1 := Lib.hid (hs.low (b := w.heap.size + 1) (by first | go_size | (simp; done) | (simp; omega)))
  clear hs
  clear hc hb
  have gl1 := HD_1.out.lt
  have zw1 := hB1.size
  go_wp2_with fail
  go_ret2
  exact ⟨_, _, ps, qs, rfl, HR1.out.low (by omega), HS1.out.low (by omega), hpl, hB1⟩

set_option maxRecDepth 100000 in
set_option maxHeartbeats 1600000 in
theorem drawCommute_is (v : Value) (bs : List Int) (w : World) (hv : RdN .u8 w v bs) (hb : ∀ x ∈ bs, 0 ≤ x ∧ x ≤ 255) :
    Calls Tryz.prog 20 #[v] w (TwoEnd w) := by
  have HV := Lib.hid hv
  obtain ⟨A, cv, rfl, hl, hm, hcell⟩ := hv
  clear hcell
  go_enter Tryz.func20, Tryz.ntmps20
  go_wp2_with fail
  refine (drawCompose_is _ bs _ (HV.out.keep (by go_grown)) hb).mono ?_
  rintro e w1 ⟨r, s, ps, qs, rfl, hr, hs, hpl, h1⟩
  have hB : Below w.heap.size w w1 := nextX (by go_grown) h1
  clear h1
  go_wp2_with fail
  go_ret2
  exact ⟨_, _, ps, qs, rfl, hr.low (by go_size), hs.low (by go_size), hpl, hB⟩

set_option maxRecDepth 100000 in
set_option maxHeartbeats 1600000 in
theorem drawMiddle_is (v : Value) (bs : List Int) (w : World) (hv : RdN .u8 w v bs) (hb : ∀ x ∈ bs, 0 ≤ x ∧ x ≤ 255) :
    Calls Tryz.prog 34 #[v] w (TwoEnd w) := by
  have HV := Lib.hid hv
  obtain ⟨A, cv, rfl, hl, hm, hcell⟩ := hv
  clear hcell
  go_enter Tryz.func34, Tryz.ntmps34
  go_wp2_with fail
  refine (drawCompose_is _ bs _ (HV.out.keep (by go_grown)) hb).mono ?_
  rintro e w1 ⟨r, s, ps, qs, rfl, hr, hs, hpl, h1⟩
  have hB : Below w.heap.size w w1 := nextX (by go_grown) h1
  clear h1
  go_wp2_with fail
  go_ret2
  exact ⟨_, _, ps, qs, rfl, hr.low (by go_size), hs.low (by go_size), hpl, hB⟩

set_option maxRecDepth 100000 in
set_option maxHeartbeats 3200000 in
theorem drawPower_is (v : Value) (bs : List Int) (w : World) (hv : RdN .u8 w v bs) (hb : ∀ x ∈ bs, 0 ≤ x ∧ x ≤ 255) :
    Calls Tryz.prog 17 #[v] w (RowIntEnd w) := by
  have HV := Lib.hid hv
  have HBs := Lib.hid hb
  obtain ⟨A, cv, rfl, hl, hm, hcell⟩ := hv
  clear hb hcell
  go_enter Tryz.func17, Tryz.ntmps17
  go_wp2_with fail
  refine (twoMaps_is w.heap.size _ 0 _ ⟨⟨by simp [go_sem], by simp [go_sem]⟩, ⟨0, Nat.le_refl _, by simp [go_sem], by simp [go_sem]⟩, 0, by omega, by omega, by simp [go_sem], by simp [go_sem]⟩ (HV.out.codeF HBs.out (by go_grown) (by omega)) (by omega)).mono ?_
  rintro e w1 ⟨r, s, ps, qs, rfl, hr, hs, hpl, hc, hb⟩
  have hB1 : Below w.heap.size w w1 := But.below (by go_grown : Below w.heap.size w _) hb (by omega) (by go_size)
  have HD_1 := Lib.hid (DS.start hc (Code.keepU (HV.out.codeF HBs.out (by go_grown) (by omega)) hb))
  have HR1 := Lib.hid (hr.low (b := w.heap.size + 1) (by first | go_size | (simp; done) | (simp; omega)))
  clear hr
  have HS1 := Lib.hid (hs.low (b := w.heap.size + 1) (by first | go_size | (simp; done) | (simp; omega)))
  clear hs
  clear hc hb
  have gl1 := HD_1.out.lt
  have zw1 := hB1.size
  go_wp2_with fail
  refine (one_is w.heap.size _ _ 4 _ (HD_1.out.cur.keep (by go_grown)) (HD_1.out.code.keep (by go_grown)) (by omega) (by omega)).mono ?_
  rintro e w2 ⟨b, rfl, hc, hb⟩
  have HD_2 := Lib.hid (HD_1.out.step (by go_grown) hc hb)
  have HR2 := Lib.hid ((OwP.keep HR1.out (by go_grown)).keepU hb (fun h => by have := HR1.out.blk _ h; omega))
  have HS2 := Lib.hid ((OwP.keep HS1.out (by go_grown)).keepU hb (fun h => by have := HS1.out.blk _ h; omega))
  have gl2 := HD_2.out.lt
  have hz2 := HD_2.out.but.size
  clear hc hb
  rcases b with _ | _
  · go_wp2_with fail
    refine (among_is w.heap.size _ _ [7, -1] _ _ (HD_2.out.cur.keep (by go_grown)) (HD_2.out.code.keep (by go_grown)) (by omega) (RdN.made .i64 _ [7, -1] _ (by simp [maxLen])) (by intro b o n c h; injection h with h; injection h with h; injection h with h; omega) (by simp)).mono ?_
    rintro e w3 ⟨x, rfl, hx, hc, hb⟩
    have HD_3 := Lib.hid (HD_2.out.step (by go_grown) hc hb)
    have HR3 := Lib.hid ((OwP.keep HR2.out (by go_grown)).keepU hb (fun h => by have := HR2.out.blk _ h; omega))
    have HS3 := Lib.hid ((OwP.keep HS2.out (by go_grown)).keepU hb (fun h => by have := HS2.out.blk _ h; omega))
    have gl3 := HD_3.out.lt
    have hz3 := HD_3.out.but.size
    clear hc hb
    go_wp2_with fail
    refine (among_is w.heap.size _ _ [0, 1, 2, 2, 3, 6, x] _ _ (HD_3.out.cur.keep (by go_grown)) (HD_3.out.code.keep (by go_grown)) (by omega) (RdN.made .i64 _ [0, 1, 2, 2, 3, 6, x] _ (by simp [maxLen])) (by intro b o n c h; injection h with h; injection h with h; injection h with h; omega) (by simp)).mono ?_
    rintro e w4 ⟨y, rfl, hy, hc, hb⟩
    have HD_4 := Lib.hid (HD_3.out.step (by go_grown) hc hb)
    have HR4 := Lib.hid ((OwP.keep HR3.out (by go_grown)).keepU hb (fun h => by have := HR3.out.blk _ h; omega))
    have HS4 := Lib.hid ((OwP.keep HS3.out (by go_grown)).keepU hb (fun h => by have := HS3.out.blk _ h; omega))
    have hy2 : -1 ≤ y ∧ y ≤ 7 := by simp at hx hy; omega
    clear hy
    have gl4 := HD_4.out.lt
    have hz4 := HD_4.out.but.size
    clear hc hb
    have hBw : Below w.heap.size w w4 := But.below hB1 HD_4.out.but (by omega) (by omega)
    go_wp2_with fail
    go_ret2
    exact ⟨_, ps, y, rfl, HR4.out.low (by omega), hpl.1, hy2, by go_grown⟩
  · go_wp2_with fail
    refine (anyIm_is w.heap.size _ _ _ (HD_2.out.cur.keep (by go_grown)) (HD_2.out.code.keep (by go_grown)) (by omega)).mono ?_
    rintro e w3 ⟨r3, ps3, rfl, hr, hpl3, hc, hb⟩
    have HD_3 := Lib.hid (HD_2.out.step (by go_grown) hc hb)
    have HR3 := Lib.hid ((OwP.keep HR2.out (by go_grown)).keepU hb (fun h => by have := HR2.out.blk _ h; omega))
    have HS3 := Lib.hid ((OwP.keep HS2.out (by go_grown)).keepU hb (fun h => by have := HS2.out.blk _ h; omega))
    have HR33 := Lib.hid (hr.low (b := w.heap.size + 1) (by first | go_size | (simp; done) | (simp; omega) | omega))
    clear hr
    have gl3 := HD_3.out.lt
    have hz3 := HD_3.out.but.size
    clear hc hb
    go_wp2_with fail
    refine (among_is w.heap.size _ _ [7, -1] _ _ (HD_3.out.cur.keep (by go_grown)) (HD_3.out.code.keep (by go_grown)) (by omega) (RdN.made .i64 _ [7, -1] _ (by simp [maxLen])) (by intro b o n c h; injection h with h; injection h with h; injection h with h; omega) (by simp)).mono ?_
    rintro e w4 ⟨x, rfl, hx, hc, hb⟩
    have HD_4 := Lib.hid (HD_3.out.step (by go_grown) hc hb)
    have HR4 := Lib.hid ((OwP.keep HR3.out (by go_grown)).keepU hb (fun h => by have := HR3.out.blk _ h; omega))
    have HS4 := Lib.hid ((OwP.keep HS3.out (by go_grown)).keepU hb (fun h => by have := HS3.out.blk _ h; omega))
    have HR34 := Lib.hid ((OwP.keep HR33.out (by go_grown)).keepU hb (fun h => by have := HR33.out.blk _ h; omega))
    have gl4 := HD_4.out.lt
    have hz4 := HD_4.out.but.size
    clear hc hb
    go_wp2_with fail
    refine (among_is w.heap.size _ _ [0, 1, 2, 2, 3, 6, x] _ _ (HD_4.out.cur.keep (by go_grown)) (HD_4.out.code.keep (by go_grown)) (by omega) (RdN.made .i64 _ [0, 1, 2, 2, 3, 6, x] _ (by simp [maxLen])) (by intro b o n c h; injection h with h; injection h with h; injection h with h; omega) (by simp)).mono ?_
    rintro e w5 ⟨y, rfl, hy, hc, hb⟩
    have HD_5 := Lib.hid (HD_4.out.step (by go_grown) hc hb)
    have HR5 := Lib.hid ((OwP.keep HR4.out (by go_grown)).keepU hb (fun h => by have := HR4.out.blk _ h; omega))
    have HS5 := Lib.hid ((OwP.keep HS4.out (by go_grown)).keepU hb (fun h => by have := HS4.out.blk _ h; omega))
    have HR35 := Lib.hid ((OwP.keep HR34.out (by go_grown)).keepU hb (fun h => by have := HR34.out.blk _ h; omega))
    have hy2 : -1 ≤ y ∧ y ≤ 7 := by simp at hx hy; omega
    clear hy
    have gl5 := HD_5.out.lt
    have hz5 := HD_5.out.but.size
    clear hc hb
    have hBw : Below w.heap.size w w5 := But.below hB1 HD_5.out.but (by omega) (by omega)
    go_wp2_with fail
    go_ret2
    exact ⟨_, ps3, y, rfl, HR35.out.low (by omega), hpl3, hy2, by go_grown⟩

set_option maxRecDepth 100000 in
set_option maxHeartbeats 3200000 in
theorem drawBelow_is (v : Value) (bs : List Int) (w : World) (hv : RdN .u8 w v bs) (hb : ∀ x ∈ bs, 0 ≤ x ∧ x ≤ 255) :
    Calls Tryz.prog 37 #[v] w (TwoEnd w) := by
  have HV := Lib.hid hv
  have HBs := Lib.hid hb
  obtain ⟨A, cv, rfl, hl, hm, hcell⟩ := hv
  clear hb hcell
  go_enter Tryz.func37, Tryz.ntmps37
  go_wp2_with fail
  refine (twoMaps_is w.heap.size _ 0 _ ⟨⟨by simp [go_sem], by simp [go_sem]⟩, ⟨0, Nat.le_refl _, by simp [go_sem], by simp [go_sem]⟩, 0, by omega, by omega, by simp [go_sem], by simp [go_sem]⟩ (HV.out.codeF HBs.out (by go_grown) (by omega)) (by omega)).mono ?_
  rintro e w1 ⟨r, s, ps, qs, rfl, hr, hs, hpl, hc, hb⟩
  have hB1 : Below w.heap.size w w1 := But.below (by go_grown : Below w.heap.size w _) hb (by omega) (by go_size)
  have HD_1 := Lib.hid (DS.start hc (Code.keepU (HV.out.codeF HBs.out (by go_grown) (by omega)) hb))
  have HR1 := Lib.hid (hr.low (b := w.heap.size + 1) (by first | go_size | (simp; done) | (simp; omega)))
  clear hr
  have HS1 := Lib.hid (hs.low (b := w.heap.size + 1) (by first | go_size | (simp; done) | (simp; omega)))
  clear hs
  clear hc hb
  have gl1 := HD_1.out.lt
  have zw1 := hB1.size
  rcases hm0 : okMap ps with _ | _
  · have HM := Lib.hid hm0
    clear hm0
    go_wp2_with fail
    refine (imGood_is ps _ false _ (HR1.out.read.keep (by go_grown)) (by omega) HM.out).mono ?_
    rintro e w2 ⟨rfl, hb⟩
    have hX2 : Below w1.heap.size w1 w2 := nextX (by go_grown) hb
    have HD_2 := Lib.hid (HD_1.out.grow hX2)
    have HR2 := Lib.hid (OwP.keep HR1.out hX2)
    have HS2 := Lib.hid (OwP.keep HS1.out hX2)
    have gl2 := HD_2.out.lt
    have hz2 := HD_2.out.but.size
    clear hb
    have hBw : Below w.heap.size w w2 := But.below hB1 HD_2.out.but (by omega) (by omega)
    go_wp2_with fail
    go_ret2
    exact ⟨_, _, ps, qs, rfl, HR2.out.low (by omega), HS2.out.low (by omega), hpl, by go_grown⟩
  · have HM := Lib.hid hm0
    clear hm0
    go_wp2_with fail
    refine (imGood_is ps _ true _ (HR1.out.read.keep (by go_grown)) (by omega) HM.out).mono ?_
    rintro e w2 ⟨rfl, hb⟩
    have hX2 : Below w1.heap.size w1 w2 := nextX (by go_grown) hb
    have HD_2 := Lib.hid (HD_1.out.grow hX2)
    have HR2 := Lib.hid (OwP.keep HR1.out hX2)
    have HS2 := Lib.hid (OwP.keep HS1.out hX2)
    have gl2 := HD_2.out.lt
    have hz2 := HD_2.out.but.size
    clear hb
    go_wp2_with fail
    refine (one_is w.heap.size _ _ 3 _ (HD_2.out.cur.keep (by go_grown)) (HD_2.out.code.keep (by go_grown)) (by omega) (by omega)).mono ?_
    rintro e w3 ⟨b, rfl, hc, hb⟩
    have HD_3 := Lib.hid (HD_2.out.step (by go_grown) hc hb)
    have HR3 := Lib.hid ((OwP.keep HR2.out (by go_grown)).keepU hb (fun h => by have := HR2.out.blk _ h; omega))
    have HS3 := Lib.hid ((OwP.keep HS2.out (by go_grown)).keepU hb (fun h => by have := HS2.out.blk _ h; omega))
    have gl3 := HD_3.out.lt
    have hz3 := HD_3.out.but.size
    clear hc hb
    rcases b with _ | _
    · have hBw : Below w.heap.size w w3 := But.below hB1 HD_3.out.but (by omega) (by omega)
      go_wp2_with fail
      go_ret2
      exact ⟨_, _, ps, qs, rfl, HR3.out.low (by omega), HS3.out.low (by omega), hpl, by go_grown⟩
    · go_wp2_with fail
      refine (raInt_any 0 _).mono ?_
      rintro e w4 ⟨rfl, hb⟩
      have hX4 : Below w3.heap.size w3 w4 := nextX (by go_grown) hb
      have HD_4 := Lib.hid (HD_3.out.grow hX4)
      have HR4 := Lib.hid (OwP.keep HR3.out hX4)
      have HS4 := Lib.hid (OwP.keep HS3.out hX4)
      have gl4 := HD_4.out.lt
      have hz4 := HD_4.out.but.size
      clear hb
      go_wp2_with fail
      refine (gridRat_is w.heap.size _ _ 4 _ (HD_4.out.cur.keep (by go_grown)) (HD_4.out.code.keep (by go_grown)) (by omega) (by omega)).mono ?_
      rintro e w5 ⟨a, c, rfl, hab, hc, hb⟩
      have HD_5 := Lib.hid (HD_4.out.step (by go_grown) hc hb)
      have HR5 := Lib.hid ((OwP.keep HR4.out (by go_grown)).keepU hb (fun h => by have := HR4.out.blk _ h; omega))
      have HS5 := Lib.hid ((OwP.keep HS4.out (by go_grown)).keepU hb (fun h => by have := HS4.out.blk _ h; omega))
      clear hab
      have gl5 := HD_5.out.lt
      have hz5 := HD_5.out.but.size
      clear hc hb
      obtain ⟨l, t, hq⟩ : ∃ l t, clampQ ps (0, 1) (a, c) = (l, t) := ⟨_, _, rfl⟩
      have hqs := clampQ_short hq
      have HQ := Lib.hid hq
      clear hq
      go_wp2_with fail
      refine (sClampMap_is ps _ 0 1 a c l t HQ.out _ (HR5.out.read.keep (by go_grown)) (by omega)).mono ?_
      rintro e w6 ⟨r3, rfl, hr, hb⟩
      have hX6 : Below w5.heap.size w5 w6 := nextX (by go_grown) hb
      have HD_6 := Lib.hid (HD_5.out.grow hX6)
      have HR6 := Lib.hid (OwP.keep HR5.out hX6)
      have HS6 := Lib.hid (OwP.keep HS5.out hX6)
      have HR36 := Lib.hid (hr.low (b := w.heap.size + 1) (by first | go_size | (simp; done) | (simp; omega) | omega))
      clear hr
      have gl6 := HD_6.out.lt
      have hz6 := HD_6.out.but.size
      clear hb
      rcases t with _ | _
      · have hBw : Below w.heap.size w w6 := But.below hB1 HD_6.out.but (by omega) (by omega)
        go_wp2_with fail
        go_ret2
        exact ⟨_, _, ps, qs, rfl, HR6.out.low (by omega), HS6.out.low (by omega), hpl, by go_grown⟩
      · have hBw : Below w.heap.size w w6 := But.below hB1 HD_6.out.but (by omega) (by omega)
        go_wp2_with fail
        go_ret2
        exact ⟨_, _, l, ps, rfl, HR36.out.low (by omega), HR6.out.low (by omega), ⟨by omega, by omega⟩, by go_grown⟩

def RelDrR (g : Nat) (v : Value) (K : Nat) (W0 : World) (xs : Value) (wr : World) : Prop := ∃ l : List Q, OwQ W0.heap.size 31 wr xs l ∧ l.length ≤ K ∧ DS g v (0 + 450 + 2 + 2 + 2 + l.length * 30) W0 wr
set_option maxRecDepth 100000 in
set_option maxHeartbeats 3200000 in
theorem drawRefine_is (v : Value) (bs : List Int) (w : World) (hv : RdN .u8 w v bs) (hb : ∀ x ∈ bs, 0 ≤ x ∧ x ≤ 255) :
    Calls Tryz.prog 27 #[v] w (RowQsEnd w) := by
  have HV := Lib.hid hv
  have HBs := Lib.hid hb
  obtain ⟨A, cv, rfl, hl, hm, hcell⟩ := hv
  clear hb hcell
  go_enter Tryz.func27, Tryz.ntmps27
  go_wp2_with fail
  refine (anyIm_is w.heap.size _ 0 _ ⟨⟨by simp [go_sem], by simp [go_sem]⟩, ⟨0, Nat.le_refl _, by simp [go_sem], by simp [go_sem]⟩, 0, by omega, by omega, by simp [go_sem], by simp [go_sem]⟩ (HV.out.codeF HBs.out (by go_grown) (by omega)) (by omega)).mono ?_
  rintro e w1 ⟨r, ps, rfl, hr, hpl, hc, hb⟩
  have hB1 : Below w.heap.size w w1 := But.below (by go_grown : Below w.heap.size w _) hb (by omega) (by go_size)
  have HD_1 := Lib.hid (DS.start hc (Code.keepU (HV.out.codeF HBs.out (by go_grown) (by omega)) hb))
  have HR1 := Lib.hid (hr.low (b := w.heap.size + 1) (by first | go_size | (simp; done) | (simp; omega)))
  clear hr
  clear hc hb
  have gl1 := HD_1.out.lt
  have zw1 := hB1.size
  go_wp2_with fail
  refine (pick_is w.heap.size _ _ 5 _ (HD_1.out.cur.keep (by go_grown)) (HD_1.out.code.keep (by go_grown)) (by omega) (by omega)).mono ?_
  rintro e w2 ⟨x, rfl, hx, hc, hb⟩
  have HD_2 := Lib.hid (HD_1.out.step (by go_grown) hc hb)
  have HR2 := Lib.hid ((OwP.keep HR1.out (by go_grown)).keepU hb (fun h => by have := HR1.out.blk _ h; omega))
  have gl2 := HD_2.out.lt
  have hz2 := HD_2.out.but.size
  clear hc hb
  go_wp2_with fail
  refine (one_is w.heap.size _ _ 16 _ (HD_2.out.cur.keep (by go_grown)) (HD_2.out.code.keep (by go_grown)) (by omega) (by omega)).mono ?_
  rintro e w3 ⟨b, rfl, hc, hb⟩
  have HD_3 := Lib.hid (HD_2.out.step (by go_grown) hc hb)
  have HR3 := Lib.hid ((OwP.keep HR2.out (by go_grown)).keepU hb (fun h => by have := HR2.out.blk _ h; omega))
  have gl3 := HD_3.out.lt
  have hz3 := HD_3.out.but.size
  clear hc hb
  go_upto_if 16 with fail
  go_cut [7] (fun s7 wx => ∃ M : Int, s7 = .int .i64 M ∧ (0 ≤ M ∧ M ≤ 21) ∧ DS w.heap.size _ (0 + 450 + 2 + 2 + 2) w3 wx)
  case first =>
    rcases b with _ | _
    · go_wp2_with fail
      go_meet
      exact ⟨x, rfl, by omega, ((DS.start HD_3.out.cur HD_3.out.code).grow (by go_grown)).more (by omega)⟩
    · have HD0 := Lib.hid (DS.start HD_3.out.cur HD_3.out.code)
      go_wp2_with fail
      refine (pick_is w.heap.size _ _ 2 _ (HD0.out.cur.keep (by go_grown)) (HD0.out.code.keep (by go_grown)) (by omega) (by omega)).mono ?_
      rintro e w4 ⟨y, rfl, hy, hc, hb⟩
      have HD_4 := Lib.hid (HD0.out.step (by go_grown) hc hb)
      have HR4 := Lib.hid ((OwP.keep HR3.out (by go_grown)).keepU hb (fun h => by have := HR3.out.blk _ h; omega))
      have vy : IntKind.i64.wrap (20 + y) = 20 + y := IntWalk.i64_in _ (by omega)
      have gl4 := HD_4.out.lt
      have hz4 := HD_4.out.but.size
      clear hc hb
      go_wp2_with fail
      go_meet
      exact ⟨20 + y, rfl, by omega, (HD_4.out.grow (by go_grown)).more (by omega)⟩
  case rest =>
    obtain ⟨M, rfl, hM, hds⟩ := hcut
    obtain ⟨w5, hwc⟩ : ∃ X : World, X = wc := ⟨_, rfl⟩
    subst hwc
    have HD_5 := Lib.hid (DS.mk hds.cur hds.code (HD_3.out.but.trans hds.but))
    have HR5 := Lib.hid (HR3.out.keepU hds.but (fun h => by have := HR3.out.blk _ h; omega))
    have gl5 := HD_5.out.lt
    have hz5 := HD_5.out.but.size
    clear hds
    obtain ⟨K, rfl⟩ : ∃ K : Nat, M = K := ⟨M.toNat, by omega⟩
    go_wp2_with fail
    have HC0 := Lib.hid HD_5.out.code
    go_loopw [6] (fun xs wr => RelDrR w.heap.size (.slice A bs.length cv) K w5 xs wr) (fun xs _ => K - lenOf xs)
    case atStart => exact ⟨[], World.ownsRow_nil _ _ _ _, Nat.zero_le _, ((DS.start HD_5.out.cur HD_5.out.code).grow (by go_grown)).more (by simp)⟩
    case round =>
      obtain ⟨l, hown, hlk, hds⟩ := hrel
      have HO := Lib.hid hown
      have HDr := Lib.hid hds
      have glr := hds.lt
      have hzr := hds.but.size
      have HRr := Lib.hid (HR5.out.keepU hds.but (fun h => by have := HR5.out.blk _ h; omega))
      obtain ⟨A2, c2, hfe, hfl, hfm⟩ := ownsRow_slice hown
      subst hfe
      unfold maxLen at hfm
      clear hown hds
      by_cases hlt : l.length < K
      · have c0 : ((l.length : Nat) : Int) < (K : Int) := by omega
        have c0' : decide (((l.length : Nat) : Int) < (K : Int)) = true := decide_eq_true c0
        go_wp2_with fail
        refine (among2_is w.heap.size _ _ (w.heap.size + 1) _ ps _ (HDr.out.cur.keep (by go_grown)) (HDr.out.code.keep (by go_grown)) (OwP.keep HRr.out (by go_grown)) (by omega) (by omega) (by omega)).mono ?_
        rintro e w6 ⟨a, c, rfl, hc, hb⟩
        have HD_6 := Lib.hid (HDr.out.step (by go_grown) hc hb)
        have HR6 := Lib.hid ((OwP.keep HRr.out (by go_grown)).keepU hb (fun h => by have := HRr.out.blk _ h; omega))
        have HO2 := Lib.hid (OwQ.keepU (OwQ.keep HO.out (by go_grown)) hb (fun h => by have := HO.out.from h; omega))
        have gl6 := HD_6.out.lt
        have hz6 := HD_6.out.but.size
        clear hc hb
        go_wp2_with (at_builtin; refine append_q1g _ rfl _ _ rfl w5.heap.size _ l rfl ?own _ _ a c rfl ?c0 ?c1 ?len ?base ?_)
        case own => exact HO2.out.keep (by go_grown)
        case c0 => simp [go_sem]
        case c1 => simp [go_sem]
        case len => omega
        case base => go_size
        intro v' w' hown hgr
        have hb7 : Below w5.heap.size w6 w' := (by go_grown : Below w5.heap.size w6 _).grown hgr (by go_size) (fun k hk => HO2.out.from hk)
        have HD7 := Lib.hid (DS.low HD_6.out HC0.out hb7 gl5)
        have HO7 := Lib.hid hown
        have hl7 : lenOf v' = l.length + 1 := by rw [OwQ.lenOf hown]; simp
        clear hown hgr hb7
        go_wp2_with fail
        go_roundw
        case rel => exact ⟨l ++ [(a, c)], HO7.out, by simp; omega, HD7.out.more (by simp; omega)⟩
        case measure => simp only [lenOf] at hl7 ⊢; omega
      · have c0 : ¬ ((l.length : Nat) : Int) < (K : Int) := by omega
        have c0' : decide (((l.length : Nat) : Int) < (K : Int)) = false := decide_eq_false c0
        have hBw : Below w.heap.size w wr := But.below hB1 (HD_5.out.but.trans HDr.out.but) (by omega) (by omega)
        go_wp2_with fail
        go_ret2
        exact ⟨_, _, ps, l, rfl, HRr.out.low (by omega), HO.out.low (by omega), by omega, by go_grown⟩

end Go.Proofs.YtkeajfgcjmhmiaaGreat
