/- Drawn maps with a further point, and drawn texts of maps: DrawSimpleMap, DrawParseMap. -/
import Derived.Test.YtkeajfgcjmhmiaaGreatDoorM21
import Derived.Test.YtkeajfgcjmhmiaaGreatDoorM26
import Derived.Test.YtkeajfgcjmhmiaaGreatDoorM29
import Derived.BigQuiet
namespace Go.Proofs.YtkeajfgcjmhmiaaGreatDoor
open Go.RowKit

theorem step_append_ptg {ops : Array Oper} {o : Oper} {a : Act} {K : Act → World → Prop} {Q' : Exit → Act → World → Prop} {E : Prop} (w : World) (hgd : o.guard = none) (s x : Operand)
    (ho : o.op = .call { callee := .builtin .append, args := #[s, x], argTypes := #[23, 23] })
    (base : Nat) (v : Value) (ps : List Pt) (hs : a.eval s = v) (hown : OwP base 41 w v ps)
    (u : Value) (qs : List Pt) (hx : a.eval x = u) (hu : RdP w u qs) (hne : qs ≠ [])
    (hlen : ps.length + qs.length ≤ 1000000) (hbase : base ≤ w.heap.size)
    (h : ∀ v' w', OwP base 41 w' v' (ps ++ qs) → Below base w w' → w.grownBy w' v.ownBlock → K (a.put o.dst v') w') :
    if Region.wanted o (yielded ops a.tmps) = true then Oper.wp Tryz.prog o a w K Q' else E := by
  obtain ⟨i, hi, hz, hsz, hb⟩ := info_parts Tryz.infoPa
  obtain ⟨A, c, rfl, h1, h2, h3⟩ := hu
  obtain ⟨g, off, rfl, hg, hc⟩ := h3 hne
  have hcell : ∀ j u, (rowP qs)[j]? = some u → w.cell? ((⟨g, off, none⟩ : Addr).add j) = some u := by
    intro j u hj
    have hjl : j < qs.length * 4 := by rw [← rowP_len]; exact (List.getElem?_eq_some_iff.1 hj).1
    have hi2 : j / 4 < qs.length := by omega
    obtain ⟨b0, b1, b2, b3⟩ := rowP_get qs (j / 4) _ (List.getElem?_eq_getElem hi2)
    obtain ⟨d0, d1, d2, d3⟩ := hc (j / 4) _ (List.getElem?_eq_getElem hi2)
    have hadd : (⟨g, off, none⟩ : Addr).add j = ⟨g, off + j, none⟩ := by unfold Addr.add; split <;> simp_all
    rw [hadd]
    have h4 : j % 4 = 0 ∨ j % 4 = 1 ∨ j % 4 = 2 ∨ j % 4 = 3 := by omega
    rcases h4 with e | e | e | e
    · have e2 : j = j / 4 * 4 := by omega
      rw [e2] at hj ⊢
      rw [b0] at hj; cases hj; exact d0
    · have e2 : j = j / 4 * 4 + 1 := by omega
      rw [e2] at hj ⊢
      rw [b1] at hj; cases hj; exact d1
    · have e2 : j = j / 4 * 4 + 2 := by omega
      rw [e2] at hj ⊢
      rw [b2] at hj; cases hj; exact d2
    · have e2 : j = j / 4 * 4 + 3 := by omega
      rw [e2] at hj ⊢
      rw [b3] at hj; cases hj; exact d3
  have hone : ∀ u ∈ rowP qs, u.oneCell' = true := by
    intro u hu
    simp only [rowP, List.mem_flatMap] at hu
    obtain ⟨q, _, hq⟩ := hu
    simp at hq
    rcases hq with rfl | rfl | rfl | rfl <;> rfl
  rw [if_pos (by unfold Region.wanted; rw [hgd])]
  refine wp_append_own w s x 23 ho base 41 i _ 4 32 Tryz.underlying23 hi hz hsz hb rfl (by decide) v ps.length (rowP ps) hs hown ⟨g, off, none⟩ qs.length c (rowP qs) hx (rowP_len _) hcell hone (by unfold maxLen; omega) (by omega) hbase ?_
  intro v' w' h1 h2 _
  refine h v' w' ?_ ?_ h2
  · unfold OwP; rw [List.length_append, rowP_app]; exact h1
  · exact (Below.refl _ _).grown h2 hbase (fun k hk => (hown.lt k hk).1)

theorem OwP.noneS (w : World) (base : Nat) (e : TypeId) (hb : base ≤ w.heap.size) : OwP base e (w.alloc (.cells #[] e)) (.slice (some ⟨w.heap.size, 0, .none⟩) 0 0) [] :=
  ⟨rfl, .inr ⟨w.heap.size, 0, _, rfl, hb, heap_alloc_new w _, Nat.le_refl _, by simp [maxLen], rfl, by simp [rowP]⟩⟩
theorem RdP.oneS {w : World} {g : Nat} {a b c d : Int} (c0 : w.cell? ⟨g, 0, none⟩ = some (.int .i64 a)) (c1 : w.cell? ⟨g, 1, none⟩ = some (.int .i64 b)) (c2 : w.cell? ⟨g, 2, none⟩ = some (.int .i64 c)) (c3 : w.cell? ⟨g, 3, none⟩ = some (.int .i64 d)) : RdP w (.slice (some ⟨g, 0, none⟩) 1 1) [((a, b), c, d)] :=
  ⟨_, 1, rfl, Nat.le_refl _, by simp [maxLen], fun _ => ⟨g, 0, rfl, lt_of_cell c0, fun i q hq => by
    rcases i with _ | i
    · simp at hq; subst hq; exact ⟨c0, c1, c2, c3⟩
    · simp at hq⟩⟩
theorem RdP.grownS {w w' : World} {row : Option Nat} {g : Nat} {a b c d : Int} (h : w.grownBy w' row) (hr : row ≠ some g) (c0 : w.cell? ⟨g, 0, none⟩ = some (.int .i64 a)) (c1 : w.cell? ⟨g, 1, none⟩ = some (.int .i64 b)) (c2 : w.cell? ⟨g, 2, none⟩ = some (.int .i64 c)) (c3 : w.cell? ⟨g, 3, none⟩ = some (.int .i64 d)) : RdP w' (.slice (some ⟨g, 0, none⟩) 1 1) [((a, b), c, d)] :=
  RdP.oneS (h.cell c0 (fun e => hr e.symm)) (h.cell c1 (fun e => hr e.symm)) (h.cell c2 (fun e => hr e.symm)) (h.cell c3 (fun e => hr e.symm))
theorem RdP.takeS {w : World} {A : Option Addr} {n c : Nat} {l : List Pt} (h : RdP w (.slice A n c) l) (k : Nat) (hk : k ≤ n) : RdP w (.slice A k c) (l.take k) := by
  obtain ⟨A', c', he, h1, h2, h3⟩ := h
  simp only [Value.slice.injEq] at he
  obtain ⟨rfl, rfl, rfl⟩ := he
  have hl : (l.take k).length = k := by rw [List.length_take]; omega
  refine ⟨_, _, by rw [hl], by rw [hl]; omega, h2, fun hn => ?_⟩
  obtain ⟨g, o, rfl, hg, hc⟩ := h3 (by rintro rfl; simp at hn)
  refine ⟨g, o, rfl, hg, fun i q hq => hc i q ?_⟩
  rw [List.getElem?_take] at hq
  split at hq
  · exact hq
  · cases hq
theorem RdP.dropS {w : World} {g o n c : Nat} {l : List Pt} (h : RdP w (.slice (some ⟨g, o, none⟩) n c) l) (i : Nat) (hi : i ≤ n) : RdP w (.slice (some ⟨g, o + i * 4, none⟩) (n - i) (c - i)) (l.drop i) := by
  obtain ⟨A', c', he, h1, h2, h3⟩ := h
  simp only [Value.slice.injEq] at he
  obtain ⟨rfl, rfl, rfl⟩ := he
  refine ⟨_, c - i, by rw [List.length_drop], by rw [List.length_drop]; omega, by omega, fun hn => ?_⟩
  obtain ⟨g', o', he, hg, hc⟩ := h3 (by rintro rfl; apply hn; simp)
  simp only [Option.some.injEq, Addr.mk.injEq, and_true] at he
  obtain ⟨rfl, rfl⟩ := he
  refine ⟨g, o + i * 4, rfl, hg, fun j q hq => ?_⟩
  rw [List.getElem?_drop] at hq
  obtain ⟨d0, d1, d2, d3⟩ := hc _ _ hq
  rw [show o + (i + j) * 4 = o + i * 4 + j * 4 from by omega] at d0 d1 d2 d3
  exact ⟨d0, d1, d2, d3⟩
theorem RdP.restS {w : World} {g n c : Nat} {l : List Pt} (h : RdP w (.slice (some ⟨g, 0, none⟩) n c) l) (i : Nat) (hi : i < n) : RdP w (.slice (if c = i then some ⟨g, 0, none⟩ else some ⟨g, i * 4, none⟩) (n - i) (c - i)) (l.drop i) := by
  have hn : n = l.length ∧ n ≤ c := by
    obtain ⟨A', c', he, h1, h2, h3⟩ := h
    simp only [Value.slice.injEq] at he
    omega
  rw [if_neg (by omega)]
  have := RdP.dropS h i (by omega)
  rwa [Nat.zero_add] at this
theorem slotPutS {X : World} {g o : Nat} {v u : Value} (h : Slot X g o v) : Slot (X.setCell ⟨g, o, none⟩ u) g o u := by
  obtain ⟨h0, h1⟩ := h
  exact ⟨by simp [go_sem, h0], by simp [go_sem, h1]⟩
theorem slotNotS {X : World} {g b o i : Nat} {v u : Value} (h : Slot X b o v) (hn : g ≠ b) : Slot (X.setCell ⟨g, i, none⟩ u) b o v := slotS h (fun e => hn (Prod.mk.inj e).1)
theorem slotOffS {X : World} {g o i : Nat} {v u : Value} (h : Slot X g o v) (hn : i ≠ o) : Slot (X.setCell ⟨g, i, none⟩ u) g o v := slotS h (fun e => hn (Prod.mk.inj e).2)
/-- The texts that a law draws. -/
def TextEnd (N : Nat) (w : World) (e : Ending) (w' : World) : Prop := ∃ l : List UInt8, e = .returned (str l) ∧ l.length ≤ N ∧ Below w.heap.size w w'

theorem OwP.blockS {b : Nat} {e : TypeId} {w : World} {v : Value} {ps : List Pt} (h : OwP b e w v ps) (h0 : 0 < ps.length) : ∃ g c, v = .slice (some ⟨g, 0, none⟩) ps.length c ∧ b ≤ g ∧ ps.length ≤ c ∧ c ≤ maxLen := by
  obtain ⟨h1, ⟨h2, h3⟩ | ⟨g, cap, cur, h2, h3, h4, h5, h6, h7, h8⟩⟩ := h
  · omega
  · exact ⟨g, cap, h2, h3, h5, h6⟩

set_option maxRecDepth 100000 in
set_option maxHeartbeats 6400000 in
theorem drawSimple_is (v : Value) (bs : List Int) (w : World) (hv : RdN .u8 w v bs) (hb : ∀ x ∈ bs, 0 ≤ x ∧ x ≤ 255) :
    Calls Tryz.prog 4 #[v] w (RowEnd w) := by
  have HV := Lib.hid hv
  have HBs := Lib.hid hb
  obtain ⟨A, cv, rfl, hl, hm, hcell⟩ := hv
  clear hb hcell
  go_enter Tryz.func4, Tryz.ntmps4
  go_wp2_with fail
  refine (anyIm_is w.heap.size _ 0 _ ⟨⟨by simp [go_sem], by simp [go_sem]⟩, ⟨0, Nat.le_refl _, by simp [go_sem], by simp [go_sem]⟩, 0, by omega, by omega, by simp [go_sem], by simp [go_sem]⟩ (HV.out.codeF HBs.out (by go_grown) (by omega)) (by omega)).mono ?_
  rintro e w1 ⟨r, ps, rfl, hr, hpl, hc, hb⟩
  have hB1 : Below w.heap.size w w1 := But.below (by go_grown : Below w.heap.size w _) hb (by omega) (by go_size)
  have HD_1 := Lib.hid (DS.start hc (Code.keepU (HV.out.codeF HBs.out (by go_grown) (by omega)) hb))
  have HR1 := Lib.hid (hr.low (b := w.heap.size + 1) (by first | go_size | (simp; done) | (simp; omega)))
  clear hr
  clear hc hb
  have gl1 := HD_1.out.lt
  have zw1 := hB1.size
  rcases hm0 : okMap ps with _ | _
  · have HM := Lib.hid hm0
    clear hm0
    go_wp2_with fail
    refine (imGood_is ps _ false _ (HR1.out.read.keep (by go_grown)) (by omega) HM.out).mono ?_
    rintro e w2 ⟨rfl, hb⟩
    have hX2 : Below w1.heap.size w1 w2 := nextX (by go_grown) hb
    have HD_2 := Lib.hid (HD_1.out.grow hX2)
    have HR2 := Lib.hid (OwP.keep HR1.out hX2)
    have gl2 := HD_2.out.lt
    have hz2 := HD_2.out.but.size
    clear hb
    have hBw : Below w.heap.size w w2 := But.below hB1 HD_2.out.but (by omega) (by omega)
    go_wp2_with fail
    go_ret
    exact ⟨_, ps, rfl, HR2.out.low (by omega), hpl, by go_grown⟩
  · have HM := Lib.hid hm0
    clear hm0
    have hlm := okMap_len HM.out
    obtain ⟨gf, cf, hsv, hfb, hfl, hfm⟩ := OwP.blockS HR1.out (by omega)
    subst hsv
    go_wp2_with fail
    refine (imGood_is ps _ true _ (HR1.out.read.keep (by go_grown)) (by omega) HM.out).mono ?_
    rintro e w2 ⟨rfl, hb⟩
    have hX2 : Below w1.heap.size w1 w2 := nextX (by go_grown) hb
    have HD_2 := Lib.hid (HD_1.out.grow hX2)
    have HR2 := Lib.hid (OwP.keep HR1.out hX2)
    have gl2 := HD_2.out.lt
    have hz2 := HD_2.out.but.size
    clear hb
    by_cases h12 : ps.length < 12
    · have k12 : ((ps.length : Nat) : Int) < 12 := by omega
      have e12 : decide (((ps.length : Nat) : Int) < 12) = true := decide_eq_true k12
      go_wp2_with fail
      refine (one_is w.heap.size _ _ 2 _ (HD_2.out.cur.keep (by go_grown)) (HD_2.out.code.keep (by go_grown)) (by omega) (by omega)).mono ?_
      rintro e w3 ⟨b, rfl, hc, hb⟩
      have HD_3 := Lib.hid (HD_2.out.step (by go_grown) hc hb)
      have HR3 := Lib.hid ((OwP.keep HR2.out (by go_grown)).keepU hb (fun h => by have := HR2.out.blk _ h; omega))
      have gl3 := HD_3.out.lt
      have hz3 := HD_3.out.but.size
      clear hc hb
      rcases b with _ | _
      · have hBw : Below w.heap.size w w3 := But.below hB1 HD_3.out.but (by omega) (by omega)
        go_wp2_with fail
        go_ret
        exact ⟨_, ps, rfl, HR3.out.low (by omega), hpl, by go_grown⟩
      · have vL : IntKind.i64.wrap (((ps.length : Nat) : Int) - 1) = ((ps.length : Nat) : Int) - 1 := IntWalk.i64_in _ (by omega)
        go_wp2_with fail
        refine (pick_is w.heap.size _ _ (((ps.length : Nat) : Int) - 1) _ (HD_3.out.cur.keep (by go_grown)) (HD_3.out.code.keep (by go_grown)) (by omega) (by omega)).mono ?_
        rintro e w4 ⟨z, rfl, hz, hc, hb⟩
        have HD_4 := Lib.hid (HD_3.out.step (by go_grown) hc hb)
        have HR4 := Lib.hid ((OwP.keep HR3.out (by go_grown)).keepU hb (fun h => by have := HR3.out.blk _ h; omega))
        have gl4 := HD_4.out.lt
        have hz4 := HD_4.out.but.size
        clear hc hb
        obtain ⟨j, rfl⟩ : ∃ j : Nat, z = j := ⟨z.toNat, by omega⟩
        obtain ⟨i, hi0⟩ : ∃ i : Nat, i = j + 1 := ⟨_, rfl⟩
        have v1 : IntKind.i64.wrap (1 + (j : Int)) = (i : Int) := by rw [show 1 + (j : Int) = (i : Int) by omega]; exact IntWalk.i64_in _ (by omega)
        have v2 : IntKind.i64.wrap ((i : Int) - 1) = (j : Int) := by rw [show (i : Int) - 1 = j by omega]; exact IntWalk.i64_in _ (by omega)
        have i1 : i < ps.length := by omega
        have hp := List.getElem?_eq_getElem (show j < ps.length by omega)
        have hq := List.getElem?_eq_getElem i1
        have cp := okMap_coord HM.out hp
        have cq := okMap_coord HM.out hq
        generalize ps[j] = p at hp cp
        generalize ps[i] = q at hq cq
        obtain ⟨⟨p1, p2⟩, p3, p4⟩ := p
        obtain ⟨⟨q1, q2⟩, q3, q4⟩ := q
        have O1 := Lib.hid (unitQ_ok (coordQ_unit cp.1))
        have O2 := Lib.hid (unitQ_ok (coordQ_unit cp.2))
        have O3 := Lib.hid (unitQ_ok (coordQ_unit cq.1))
        have O4 := Lib.hid (unitQ_ok (coordQ_unit cq.2))
        clear cp cq hz
        obtain ⟨⟨c0, c1⟩, c2, c3⟩ := OwP.point HR4.out rfl hp
        obtain ⟨⟨d0, d1⟩, d2, d3⟩ := OwP.point HR4.out rfl hq
        simp only at c0 c1 c2 c3 d0 d1 d2 d3
        clear hp hq
        have a0 : (0 : Int) ≤ (j : Int) := by omega
        have a1 : (j : Int) < ((ps.length : Nat) : Int) := by omega
        have a2 : (0 : Int) ≤ (i : Int) := by omega
        have a3 : (i : Int) < ((ps.length : Nat) : Int) := by omega
        have a4 : (i : Int) ≤ ((ps.length : Nat) : Int) := by omega
        have a5 : (i : Int) ≤ (cf : Int) := by omega
        have i2 : 1 ≤ i := by omega
        clear hi0
        have hB5 : Below w.heap.size w w4 := But.below hB1 HD_4.out.but (by omega) (by omega)
        have zg : gf < w4.heap.size := lt_of_cell c0
        have z5 := hB5.size
        go_wp2_with fail
        have SO1 := Sm.of_ok O1.out
        have SO2 := Sm.of_ok O2.out
        have SO3 := Sm.of_ok O3.out
        have SO4 := Sm.of_ok O4.out
        obtain ⟨x1, x2, tx, htx⟩ : ∃ a b t, lowQ (p1 * q2 + q1 * p2) (p2 * q2) = (a, b, t) := ⟨_, _, _, rfl⟩
        have HLtx := Lib.hid htx
        have Stx := Lib.hid (Sm.of_low htx)
        clear htx
        go_cut [6, 7] (fun sa sb wx => VarQ wx sa w4.heap.size x1 x2 ∧ sb = .bool tx ∧ Below w4.heap.size w4 wx)
        case first => as_aux_lemma =>
          go_name_world W hW
          have g0 : Below w4.heap.size w4 W := by rw [← hW]; go_grown
          have hBW : Below w4.heap.size w4 W := by first | exact g0 | exact g0
          have kL : Facts [(gf, j * 4, .int .i64 p1), (gf, j * 4 + 1, .int .i64 p2), (gf, i * 4, .int .i64 q1), (gf, i * 4 + 1, .int .i64 q2)] W := ⟨cellB g0 c0, cellB g0 c1, cellB g0 d0, cellB g0 d1⟩
          have zW := hBW.size
          clear hW
          go_region_held3 (fun w' => w'.cell? ⟨gf, j * 4, none⟩ = some (.int .i64 p1) ∧ w'.cell? ⟨gf, j * 4 + 1, none⟩ = some (.int .i64 p2) ∧ w'.cell? ⟨gf, i * 4, none⟩ = some (.int .i64 q1) ∧ w'.cell? ⟨gf, i * 4 + 1, none⟩ = some (.int .i64 q2)) ((refine Facts.keep kL ?_; go_grown; done)) ((first | (go_at_call 24; (with_reducible refine (raAdd_any p1 p2 q1 q2 x1 x2 tx SO1.1 SO1.2 SO3.1 SO3.2 HLtx.out _).mono ?_); rintro e w2 ⟨rfl, hb2⟩; have hX2 : Below W.heap.size W w2 := nextX (by go_grown) hb2; have zz2 := hX2.size; (first | (with_reducible have n2 := fresh2 hb2) | (with_reducible have n2 := fresh2D hb2) | skip); (first | obtain ⟨⟨p0, f0⟩, p1, f1⟩ := n2 | skip))))
          all_goals
            go_wp2_with fail
            go_meet
            first
              | exact ⟨VarQ.made (by omega) _ _ _, rfl, nextW hBW (by go_grown)⟩
              | exact ⟨VarQ.stored ⟨p0, f0⟩ ⟨p1, f1⟩ (by omega) _ _, rfl, nextW hBW (by go_grown)⟩
        case rest => as_aux_lemma =>
          obtain ⟨⟨gx, rfl, hgx, sx0, sx1⟩, rfl, hX⟩ := hcut
          obtain ⟨w20, hwc⟩ : ∃ X : World, X = wc := ⟨_, rfl⟩
          subst hwc
          have zx := lt_of_cell sx0.1
          have hXs := hX.size
          replace c2 := cellB hX c2
          replace c3 := cellB hX c3
          replace d2 := cellB hX d2
          replace d3 := cellB hX d3
          clear c0 c1 d0 d1
          go_wp2_with fail
          obtain ⟨y1, y2, ty, hty⟩ : ∃ a b t, lowQ (p3 * q4 + q3 * p4) (p4 * q4) = (a, b, t) := ⟨_, _, _, rfl⟩
          have HLty := Lib.hid hty
          have Sty := Lib.hid (Sm.of_low hty)
          clear hty
          go_cut [8, 9] (fun sa sb wx => VarQ wx sa w20.heap.size y1 y2 ∧ sb = .bool ty ∧ Below w20.heap.size w20 wx)
          case first => as_aux_lemma =>
            go_name_world W hW
            have g0 : Below w20.heap.size w20 W := by rw [← hW]; go_grown
            have hBW : Below w20.heap.size w20 W := by first | exact g0 | exact g0
            have kL : Facts [(gf, j * 4 + 2, .int .i64 p3), (gf, j * 4 + 2 + 1, .int .i64 p4), (gf, i * 4 + 2, .int .i64 q3), (gf, i * 4 + 2 + 1, .int .i64 q4)] W := ⟨cellB g0 c2, cellB g0 c3, cellB g0 d2, cellB g0 d3⟩
            have zW := hBW.size
            clear hW
            go_region_held3 (fun w' => w'.cell? ⟨gf, j * 4 + 2, none⟩ = some (.int .i64 p3) ∧ w'.cell? ⟨gf, j * 4 + 2 + 1, none⟩ = some (.int .i64 p4) ∧ w'.cell? ⟨gf, i * 4 + 2, none⟩ = some (.int .i64 q3) ∧ w'.cell? ⟨gf, i * 4 + 2 + 1, none⟩ = some (.int .i64 q4)) ((refine Facts.keep kL ?_; go_grown; done)) ((first | (go_at_call 24; (with_reducible refine (raAdd_any p3 p4 q3 q4 y1 y2 ty SO2.1 SO2.2 SO4.1 SO4.2 HLty.out _).mono ?_); rintro e w2 ⟨rfl, hb2⟩; have hX2 : Below W.heap.size W w2 := nextX (by go_grown) hb2; have zz2 := hX2.size; (first | (with_reducible have n2 := fresh2 hb2) | (with_reducible have n2 := fresh2D hb2) | skip); (first | obtain ⟨⟨p0, f0⟩, p1, f1⟩ := n2 | skip))))
            all_goals
              go_wp2_with fail
              go_meet
              first
                | exact ⟨VarQ.made (by omega) _ _ _, rfl, nextW hBW (by go_grown)⟩
                | exact ⟨VarQ.stored ⟨p0, f0⟩ ⟨p1, f1⟩ (by omega) _ _, rfl, nextW hBW (by go_grown)⟩
          case rest => as_aux_lemma =>
            obtain ⟨⟨gy, rfl, hgy, sy0, sy1⟩, rfl, hY⟩ := hcut
            obtain ⟨w21, hwc⟩ : ∃ X : World, X = wc := ⟨_, rfl⟩
            subst hwc
            have zy := lt_of_cell sy0.1
            have hYs := hY.size
            replace sx0 := slotB hY sx0
            replace sx1 := slotB hY sx1
            have hXY := nextW hX hY
            clear c2 c3 d2 d3
            have HR21 := Lib.hid (OwP.keep HR4.out (by first | exact hXY | exact nextW (by go_grown) hXY))
            have hB21 : Below w.heap.size w w21 := nextW hB5 hXY
            rcases tx with _ | _
            · go_wp2_with fail
              go_ret
              exact ⟨_, ps, rfl, (OwP.keep HR21.out (by go_grown)).low (by omega), hpl, by go_grown⟩
            · rcases ty with _ | _
              · go_wp2_with fail
                go_ret
                exact ⟨_, ps, rfl, (OwP.keep HR21.out (by go_grown)).low (by omega), hpl, by go_grown⟩
              · obtain ⟨m1, m2, tm, hm⟩ : ∃ a b t, lowQ (x1 * 1) (x2 * 2) = (a, b, t) := ⟨_, _, _, rfl⟩
                obtain ⟨n1, n2, tn, hn⟩ : ∃ a b t, lowQ (y1 * 1) (y2 * 2) = (a, b, t) := ⟨_, _, _, rfl⟩
                have HM1 := Lib.hid hm
                have HN1 := Lib.hid hn
                clear hm hn
                have s1 : Sm (1 : Int) := by unfold Sm; omega
                have s2 : Sm (2 : Int) := by unfold Sm; omega
                have hgxy : gx ≠ gy := by omega
                obtain ⟨x0, fx0⟩ := sx0
                obtain ⟨x9, fx9⟩ := sx1
                obtain ⟨y0, fy0⟩ := sy0
                obtain ⟨y9, fy9⟩ := sy1
                have zx1 := lt_of_cell x0
                have zy1 := lt_of_cell y0
                have zx2 := Nat.ne_of_lt zx1
                have zy2 := Nat.ne_of_lt zy1
                have zx3 := Nat.ne_of_gt zx1
                have zy3 := Nat.ne_of_gt zy1
                go_wp2_with fail
                refine (raMul_any x1 x2 1 2 m1 m2 tm Stx.out.1 Stx.out.2 s1 s2 HM1.out _).mono ?_
                rintro e w22 ⟨rfl, hb⟩
                have h22 : Below w21.heap.size w21 w22 := nextX (by go_grown) hb
                obtain ⟨h0, fh0⟩ : Slot w22 w21.heap.size 0 (.int .i64 1) := slotB hb ⟨by simp [go_sem], by simp [go_sem]⟩
                obtain ⟨h9, fh9⟩ : Slot w22 w21.heap.size 1 (.int .i64 2) := slotB hb ⟨by simp [go_sem], by simp [go_sem]⟩
                have zh := lt_of_cell h0
                have tx0 := slotB h22 ⟨x0, fx0⟩
                have tx9 := slotB h22 ⟨x9, fx9⟩
                have ty0 := slotB h22 ⟨y0, fy0⟩
                have ty9 := slotB h22 ⟨y9, fy9⟩
                clear hb x0 fx0 x9 fx9 y0 fy0 y9 fy9
                obtain ⟨x0, fx0⟩ := tx0
                obtain ⟨x9, fx9⟩ := tx9
                obtain ⟨y0, fy0⟩ := ty0
                obtain ⟨y9, fy9⟩ := ty9
                have z22 := h22.size
                have hB22 := nextW hXY h22
                go_upto_region 10 with fail
                go_name_world w23 hW
                have hw23 : Below w4.heap.size w22 w23 := by rw [← hW]; go_grown
                have nx0 : Slot w23 gx 0 (.int .i64 m1) := by rw [← hW]; exact slotOffS (slotPutS ⟨x0, fx0⟩) (by decide)
                have nx9 : Slot w23 gx 1 (.int .i64 m2) := by rw [← hW]; exact slotPutS (slotOffS ⟨x9, fx9⟩ (by decide))
                have ny0 := (show Slot w23 gy 0 _ by rw [← hW]; exact slotNotS (slotNotS ⟨y0, fy0⟩ (by omega)) (by omega))
                have ny9 := (show Slot w23 gy 1 _ by rw [← hW]; exact slotNotS (slotNotS ⟨y9, fy9⟩ (by omega)) (by omega))
                have nh0 := (show Slot w23 w21.heap.size 0 _ by rw [← hW]; exact slotNotS (slotNotS ⟨h0, fh0⟩ (by omega)) (by omega))
                have nh9 := (show Slot w23 w21.heap.size 1 _ by rw [← hW]; exact slotNotS (slotNotS ⟨h9, fh9⟩ (by omega)) (by omega))
                clear hW x0 fx0 x9 fx9 y0 fy0 y9 fy9 h0 fh0 h9 fh9
                have hB23 := Below.trans hB22 hw23
                have zw23 := hw23.size
                obtain ⟨x0, fx0⟩ := nx0
                obtain ⟨x9, fx9⟩ := nx9
                obtain ⟨y0, fy0⟩ := ny0
                obtain ⟨y9, fy9⟩ := ny9
                obtain ⟨h0, fh0⟩ := nh0
                obtain ⟨h9, fh9⟩ := nh9
                go_wp2_with fail
                refine (raMul_any y1 y2 1 2 n1 n2 tn Sty.out.1 Sty.out.2 s1 s2 HN1.out _).mono ?_
                rintro e w24 ⟨rfl, hb⟩
                have h24 : Below w23.heap.size w23 w24 := nextX (by go_grown) hb
                have tx0 := slotB h24 ⟨x0, fx0⟩
                have tx9 := slotB h24 ⟨x9, fx9⟩
                have ty0 := slotB h24 ⟨y0, fy0⟩
                have ty9 := slotB h24 ⟨y9, fy9⟩
                clear hb x0 fx0 x9 fx9 y0 fy0 y9 fy9 h0 fh0 h9 fh9
                obtain ⟨x0, fx0⟩ := tx0
                obtain ⟨x9, fx9⟩ := tx9
                obtain ⟨y0, fy0⟩ := ty0
                obtain ⟨y9, fy9⟩ := ty9
                have z24 := h24.size
                have hB24 := nextW hB23 h24
                go_upto_region 11 with fail
                go_name_world W2 hW
                have hW2 : Below w4.heap.size w24 W2 := by rw [← hW]; go_grown
                have ny0 : Slot W2 gy 0 (.int .i64 n1) := by rw [← hW]; exact slotOffS (slotPutS ⟨y0, fy0⟩) (by decide)
                have ny9 : Slot W2 gy 1 (.int .i64 n2) := by rw [← hW]; exact slotPutS (slotOffS ⟨y9, fy9⟩ (by decide))
                have nx0 := (show Slot W2 gx 0 _ by rw [← hW]; exact slotNotS (slotNotS ⟨x0, fx0⟩ (by omega)) (by omega))
                have nx9 := (show Slot W2 gx 1 _ by rw [← hW]; exact slotNotS (slotNotS ⟨x9, fx9⟩ (by omega)) (by omega))
                clear hW y0 fy0 y9 fy9 x0 fx0 x9 fx9
                have hBP := Below.trans hB24 hW2
                have zW2 := hW2.size
                have hB2 : Below w.heap.size w W2 := nextW hB5 hBP
                have hzw : w.heap.size ≤ W2.heap.size := hB2.size
                have HRW := Lib.hid (OwP.keep HR4.out hBP)
                have HTk := Lib.hid (RdP.takeS HRW.out.read i (by omega))
                have HDr := Lib.hid (RdP.restS HRW.out.read i i1)
                have hne1 : ps.take i ≠ [] := fun h => by have := congrArg List.length h; rw [List.length_take, List.length_nil] at this; omega
                have hne2 : ps.drop i ≠ [] := fun h => by have := congrArg List.length h; rw [List.length_drop, List.length_nil] at this; omega
                have hlt1 : (ps.take i).length ≤ 12 := by rw [List.length_take]; omega
                have hlt2 : (ps.drop i).length ≤ 12 := by rw [List.length_drop]; omega
                have kL : Facts [(gx, 0, .int .i64 m1), (gx, 1, .int .i64 m2), (gy, 0, .int .i64 n1), (gy, 1, .int .i64 n2)] W2 := ⟨nx0.1, nx9.1, ny0.1, ny9.1⟩
                have N1 := Lib.hid (OwP.noneS W2 W2.heap.size 41 (Nat.le_refl _))
                have N12 := Lib.hid (show OwP W2.heap.size 41 ((W2.alloc (.cells #[] 41)).alloc (.cells #[.int .i64 m1, .int .i64 m2, .int .i64 n1, .int .i64 n2] 41)) (.slice (some ⟨W2.heap.size, 0, none⟩) 0 0) [] from OwP.keep N1.out (by go_grown))
                have N2 := Lib.hid (show OwP W2.heap.size 41 ((W2.alloc (.cells #[.int .i64 m1, .int .i64 m2, .int .i64 n1, .int .i64 n2] 41)).alloc (.cells #[] 41)) (.slice (some ⟨W2.heap.size + 1, 0, none⟩) 0 0) [] from by have h := OwP.noneS (W2.alloc (.cells #[.int .i64 m1, .int .i64 m2, .int .i64 n1, .int .i64 n2] 41)) W2.heap.size 41 (by go_size); rwa [show (W2.alloc (.cells #[.int .i64 m1, .int .i64 m2, .int .i64 n1, .int .i64 n2] 41)).heap.size = W2.heap.size + 1 from by simp [go_sem]] at h)
                have R2 : ∀ {wa}, World.grownBy ((W2.alloc (.cells #[] 41)).alloc (.cells #[.int .i64 m1, .int .i64 m2, .int .i64 n1, .int .i64 n2] 41)) wa (some W2.heap.size) → RdP wa (.slice (some ⟨W2.heap.size + 1, 0, none⟩) 1 1) [((m1, m2), n1, n2)] := fun {wa} h => RdP.grownS h (by simp) (by simp [go_sem]) (by simp [go_sem]) (by simp [go_sem]) (by simp [go_sem])
                have R2d : ∀ {wa}, World.grownBy ((W2.alloc (.cells #[] 41)).alloc (.cells #[.int .i64 m1, .int .i64 m2, .int .i64 n1, .int .i64 n2] 41)).drew wa (some W2.heap.size) → RdP wa (.slice (some ⟨W2.heap.size + 1, 0, none⟩) 1 1) [((m1, m2), n1, n2)] := fun {wa} h => RdP.grownS h (by simp) (by simp [go_sem]) (by simp [go_sem]) (by simp [go_sem]) (by simp [go_sem])
                have R3 : ∀ {wa}, World.grownBy ((W2.alloc (.cells #[.int .i64 m1, .int .i64 m2, .int .i64 n1, .int .i64 n2] 41)).alloc (.cells #[] 41)) wa (some (W2.heap.size + 1)) → RdP wa (.slice (some ⟨W2.heap.size, 0, none⟩) 1 1) [((m1, m2), n1, n2)] := fun {wa} h => RdP.grownS h (by simp) (by simp [go_sem]) (by simp [go_sem]) (by simp [go_sem]) (by simp [go_sem])
                have R3d : ∀ {wa}, World.grownBy ((W2.alloc (.cells #[.int .i64 m1, .int .i64 m2, .int .i64 n1, .int .i64 n2] 41)).alloc (.cells #[] 41)).drew wa (some (W2.heap.size + 1)) → RdP wa (.slice (some ⟨W2.heap.size, 0, none⟩) 1 1) [((m1, m2), n1, n2)] := fun {wa} h => RdP.grownS h (by simp) (by simp [go_sem]) (by simp [go_sem]) (by simp [go_sem]) (by simp [go_sem])
                go_region_held3 (fun w' => w'.cell? ⟨gx, 0, none⟩ = some (.int .i64 m1) ∧ w'.cell? ⟨gx, 1, none⟩ = some (.int .i64 m2) ∧ w'.cell? ⟨gy, 0, none⟩ = some (.int .i64 n1) ∧ w'.cell? ⟨gy, 1, none⟩ = some (.int .i64 n2))
                  ((refine Facts.keep kL ?_; go_grown; done))
                  ((first
                    | (refine step_append_ptg _ rfl (.tmp 84) (.tmp 88) rfl W2.heap.size va _ rfl (OwP.keep h1a ?_) _ [((m1, m2), n1, n2)] rfl ?_ (by simp) ?_ ?_ ?_; (focus (go_grown; done)); (first | exact rx | (refine RdP.oneS ?_ ?_ ?_ ?_ <;> (simp [go_sem]; done))); (focus (simp; omega)); (focus (go_size; done)); intro vb wb h1b h2b h3b; have hXb : Below W2.heap.size W2 wb := Below.trans (by go_grown) h2b; have hzb : W2.heap.size ≤ wb.heap.size := hXb.size; have hYb : Below w.heap.size w wb := hB2.trans (hXb.mono hB2.size); have hyb : w.heap.size ≤ wb.heap.size := hYb.size)
                    | (refine step_append_ptg _ rfl (.tmp 80) (.tmp 83) rfl W2.heap.size _ [] rfl ?_ _ (ps.take i) rfl (RdP.keep HTk.out ?_) hne1 ?_ ?_ ?_; (first | exact N1.out | exact N12.out | exact N2.out); (focus (go_grown; done)); (focus (simp; omega)); (focus (go_size; done)); intro va wa h1a h2a h3a; have hXa : Below W2.heap.size W2 wa := Below.trans (by go_grown) h2a; have hza : W2.heap.size ≤ wa.heap.size := hXa.size; have hYa : Below w.heap.size w wa := hB2.trans (hXa.mono hB2.size); have hya : w.heap.size ≤ wa.heap.size := hYa.size; (first | have rx := R2 h3a | have rx := R2d h3a | have rx := R3 h3a | have rx := R3d h3a | skip))
                    | (refine step_append_ptg _ rfl (.tmp 89) (.tmp 92) rfl W2.heap.size vb _ rfl (OwP.keep h1b ?_) _ (ps.drop i) rfl (RdP.keep HDr.out ?_) hne2 ?_ ?_ ?_; (focus (go_grown; done)); (focus (go_grown; done)); (focus (simp; omega)); (focus (go_size; done)); intro vc wc h1c h2c h3c; have hXc : Below W2.heap.size W2 wc := Below.trans (by go_grown) h2c; have hzc : W2.heap.size ≤ wc.heap.size := hXc.size)))
                all_goals
                  have HCC := Lib.hid (OwP.low h1c hzw)
                  have hBc := hB2.trans (hXc.mono hB2.size)
                  have hlen : ([] ++ ps.take i ++ [((m1, m2), n1, n2)] ++ ps.drop i).length ≤ 62 := by simp only [List.length_append, List.length_nil, List.length_singleton]; omega
                  clear h1a h2a h3a h1b h2b h3b h1c h2c h3c hXa hXb hza hzb kL
                  go_wp2_with fail
                  all_goals
                    go_ret
                    exact ⟨_, _, rfl, HCC.out, hlen, hBc⟩
    · have k12 : ¬ ((ps.length : Nat) : Int) < 12 := by omega
      have e12 : decide (((ps.length : Nat) : Int) < 12) = false := decide_eq_false k12
      have hBw : Below w.heap.size w w2 := But.below hB1 HD_2.out.but (by omega) (by omega)
      go_wp2_with fail
      go_ret
      exact ⟨_, ps, rfl, HR2.out.low (by omega), hpl, by go_grown⟩

set_option maxRecDepth 100000 in
set_option maxHeartbeats 3200000 in
theorem drawParse_is (v : Value) (bs : List Int) (w : World) (hv : RdN .u8 w v bs) (hb : ∀ x ∈ bs, 0 ≤ x ∧ x ≤ 255) :
    Calls Tryz.prog 11 #[v] w (TextEnd 6000 w) := by
  have HV := Lib.hid hv
  have HBs := Lib.hid hb
  obtain ⟨A, cv, rfl, hl, hm, hcell⟩ := hv
  clear hb hcell
  go_enter Tryz.func11, Tryz.ntmps11
  go_wp2_with fail
  refine (im_is w.heap.size _ 0 _ ⟨⟨by simp [go_sem], by simp [go_sem]⟩, ⟨0, Nat.le_refl _, by simp [go_sem], by simp [go_sem]⟩, 0, by omega, by omega, by simp [go_sem], by simp [go_sem]⟩ (HV.out.codeF HBs.out (by go_grown) (by omega)) (by omega)).mono ?_
  rintro e w1 ⟨r, ps, rfl, hr, hpl, hpo, hc, hb⟩
  have hB1 : Below w.heap.size w w1 := But.below (by go_grown : Below w.heap.size w _) hb (by omega) (by go_size)
  have HD_1 := Lib.hid (DS.start hc (Code.keepU (HV.out.codeF HBs.out (by go_grown) (by omega)) hb))
  have HR1 := Lib.hid (hr.low (b := w.heap.size + 1) (by first | go_size | (simp; done) | (simp; omega)))
  clear hr
  clear hc hb
  have gl1 := HD_1.out.lt
  have zw1 := hB1.size
  have hlt2 := mapL_len hpo
  go_wp2_with fail
  refine (imText_is ps _ _ (HR1.out.read.keep (by go_grown)) hpo (by omega)).mono ?_
  rintro e w2 ⟨rfl, hb⟩
  have hX2 : Below w1.heap.size w1 w2 := nextX (by go_grown) hb
  have HD_2 := Lib.hid (HD_1.out.grow hX2)
  have HR2 := Lib.hid (OwP.keep HR1.out hX2)
  have gl2 := HD_2.out.lt
  have hz2 := HD_2.out.but.size
  clear hb
  go_wp2_with fail
  refine (one_is w.heap.size _ _ 3 _ (HD_2.out.cur.keep (by go_grown)) (HD_2.out.code.keep (by go_grown)) (by omega) (by omega)).mono ?_
  rintro e w3 ⟨b, rfl, hc, hb⟩
  have HD_3 := Lib.hid (HD_2.out.step (by go_grown) hc hb)
  have HR3 := Lib.hid ((OwP.keep HR2.out (by go_grown)).keepU hb (fun h => by have := HR2.out.blk _ h; omega))
  have gl3 := HD_3.out.lt
  have hz3 := HD_3.out.but.size
  clear hc hb
  rcases b with _ | _
  · have hBw : Below w.heap.size w w3 := But.below hB1 HD_3.out.but (by omega) (by omega)
    go_wp2_with fail
    go_ret
    exact ⟨_, rfl, by omega, by go_grown⟩
  · go_wp2_with fail
    refine (spoilt_is w.heap.size _ _ (mapL ps) [48, 49, 50, 47, 59, 32] _ (HD_3.out.cur.keep (by go_grown)) (HD_3.out.code.keep (by go_grown)) (by omega) (by omega) (by simp)).mono ?_
    rintro e w4 ⟨l, rfl, hl2, hc, hb⟩
    have HD_4 := Lib.hid (HD_3.out.step (by go_grown) hc hb)
    have HR4 := Lib.hid ((OwP.keep HR3.out (by go_grown)).keepU hb (fun h => by have := HR3.out.blk _ h; omega))
    have gl4 := HD_4.out.lt
    have hz4 := HD_4.out.but.size
    clear hc hb
    have hBw : Below w.heap.size w w4 := But.below hB1 HD_4.out.but (by omega) (by omega)
    go_wp2_with fail
    go_ret
    exact ⟨_, rfl, by omega, by go_grown⟩

end Go.Proofs.YtkeajfgcjmhmiaaGreatDoor
