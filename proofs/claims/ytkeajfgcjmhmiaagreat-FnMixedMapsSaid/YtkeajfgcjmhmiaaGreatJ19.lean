/- slices.Compact at fractions: equal neighbours once. · rising and bothAt of the program: fractions in increasing order, each once. · The program's fixed points of a map. -/
import Derived.Test.YtkeajfgcjmhmiaaGreatJ10
import Derived.Test.YtkeajfgcjmhmiaaGreatJ18
import Derived.Test.YtkeajfgcjmhmiaaGreatJ16
import Derived.Deep.LoopGhost
import Derived.BigQuiet
namespace Go.Proofs.YtkeajfgcjmhmiaaGreat
open Go.RowKit Go.Lib

/-- The first loop: no two of the first k are alike. -/
def RelC (base g cap : Nat) (e : TypeId) (qs : List Q) (w : World) (i : Value) (wr : World) : Prop :=
  ∃ k : Nat, 1 ≤ k ∧ k ≤ qs.length ∧ i = .int .i64 k ∧ (∀ j, j < k → keeps qs.toArray j = true) ∧ OwQ base e wr (.slice (some ⟨g, 0, none⟩) qs.length cap) qs ∧ But g w wr
/-- The second loop. -/
def RelD (base g cap : Nat) (e : TypeId) (qs : List Q) (k0 : Nat) (w : World) (s3 s5 : Value) (wr : World) : Prop :=
  ∃ (k m : Nat) (cs : Array Q), s3 = .int .i64 k ∧ s5 = .int .i64 ((m : Int) + 1) ∧ k0 + m + 1 ≤ qs.length ∧ OwQ base e wr (.slice (some ⟨g, 0, none⟩) qs.length cap) cs.toList ∧ But g w wr ∧ CompInv qs.toArray (k0 + m + 1) k cs
theorem comp_same {qs : List Q} (h : ∀ j, j < qs.length → keeps qs.toArray j = true) : compQ qs = qs := by
  have h1 := compUp qs qs.length (Nat.le_refl _)
  rw [List.take_length] at h1
  rw [← h1, compactUpTo_all _ _ h]
  have := range_map_get qs.toArray
  simpa using this
theorem comp_done {qs : List Q} {k : Nat} {cs : Array Q} (h : CompInv qs.toArray qs.length k cs) : (compQ qs).length = k ∧ cs.toList.take k = compQ qs := by
  have h1 := compUp qs qs.length (Nat.le_refl _)
  rw [List.take_length] at h1
  have hl := h.len
  have hw := h.low
  have hs : cs.size = qs.length := by simpa using h.size
  have hlt := h.lt
  rw [h1] at hl hw
  refine ⟨hl, ?_⟩
  apply List.ext_getElem?
  intro j
  by_cases hj : j < k
  · rw [List.getElem?_take_of_lt hj, hw j hj, getElem!_pos _ _ (by omega), Array.getElem?_toList, Array.getElem?_eq_getElem (by omega)]
  · rw [List.getElem?_take_eq_none (by omega), List.getElem?_eq_none (by omega)]
theorem rat_slice : Tryz.prog.underlying 43 = some (.slice 31) := by kernel_rfl
theorem rat_zero (w : World) : (zeroValue 31).run Tryz.prog w = .ok (.agg #[.int .i64 0, .int .i64 0]) w := by kernel_rfl

set_option maxHeartbeats 4000000 in
/-- Equal neighbours once; the rest of the row is cleared. -/
theorem compact_is (base g cap : Nat) (qs : List Q) (w : World) (h : OwQ base 31 w (.slice (some ⟨g, 0, none⟩) qs.length cap) qs) (hl : qs.length ≤ cap) (hm : cap ≤ maxLen) :
    Calls Tryz.prog 181 #[.slice (some ⟨g, 0, none⟩) qs.length cap] w fun e w' => e = .returned (.slice (some ⟨g, 0, none⟩) (compQ qs).length cap) ∧ OwQ base 31 w' (.slice (some ⟨g, 0, none⟩) (compQ qs).length cap) (compQ qs) ∧ But g w w' := by
  unfold maxLen at hm
  have HW := Lib.hid h
  clear h
  by_cases h2 : qs.length < 2
  · have b0 : (qs.length : Int) < 2 := by omega
    go_enter Tryz.func181, Tryz.ntmps181
    go_wp2_with fail
    go_ret
    rw [comp_same (fun j hj => keeps_lt_one _ j (by omega))]
    exact ⟨rfl, HW.out, But.refl _ _⟩
  · have b0 : ¬ ((qs.length : Int) < 2) := by omega
    go_enter Tryz.func181, Tryz.ntmps181
    go_wp2_with fail
    clear b0
    go_loopw [3] (fun i wr => RelC base g cap 31 qs w i wr) (fun i _ => qs.length - (intOf i).toNat)
    case atStart => exact ⟨1, Nat.le_refl _, by omega, rfl, keeps_lt_one _, HW.out, But.refl _ _⟩
    case round =>
      obtain ⟨k, hk1, hk, rfl, hall, hown, hbut⟩ := hrel
      by_cases hlt : k < qs.length
      · obtain ⟨i, rfl⟩ : ∃ i, k = i + 1 := ⟨k - 1, by omega⟩
        have hp := List.getElem?_eq_getElem (show i < qs.length by omega)
        have hq := List.getElem?_eq_getElem hlt
        have e0 : qs.toArray[i]! = qs[i] := by simp [getElem!_pos, show i < qs.length by omega]
        have e1 : qs.toArray[i + 1]! = qs[i + 1] := by simp [getElem!_pos, hlt]
        generalize hx : qs[i] = x at *
        generalize hy : qs[i + 1] = y at *
        obtain ⟨x1, x2⟩ := x
        obtain ⟨y1, y2⟩ := y
        obtain ⟨g0, g1⟩ := rowQ_get _ _ _ hp
        obtain ⟨g2, g3⟩ := rowQ_get _ _ _ hq
        have c0 := (World.ownsRow.cellAt hown (i * 2) (by omega)).trans g0
        have c1 := (World.ownsRow.cellAt hown (i * 2 + 1) (by omega)).trans g1
        have c2 := (World.ownsRow.cellAt hown ((i + 1) * 2) (by omega)).trans g2
        have c3 := (World.ownsRow.cellAt hown ((i + 1) * 2 + 1) (by omega)).trans g3
        have HO := Lib.hid (And.intro hown hbut)
        have HA := Lib.hid hall
        have HX := Lib.hid (And.intro e0 e1)
        have b0 : (0 : Int) ≤ (i : Int) := by omega
        have b1 : (i : Int) < (qs.length : Int) := by omega
        have b2 : (i : Int) + 1 < (qs.length : Int) := by omega
        have b3 : (0 : Int) ≤ (i : Int) + 1 := by omega
        have t1 : ((i : Int)).toNat = i := by omega
        have t2 : ((i : Int) + 1).toNat = i + 1 := by omega
        have v2 : IntKind.i64.wrap ((i : Int) + 1) = (i : Int) + 1 := IntWalk.i64_in _ (by omega)
        have v3 : IntKind.i64.wrap (i : Int) = (i : Int) := IntWalk.i64_in _ (by omega)
        have v4 : IntKind.i64.wrap ((i : Int) + 1 + 1) = (i : Int) + 1 + 1 := IntWalk.i64_in _ (by omega)
        clear hall hown hbut e0 e1 g0 g1 g2 g3 hx hy hp hq
        by_cases he : ((y1, y2) : Q) = (x1, x2)
        · have HE := Lib.hid he
          obtain ⟨rfl, rfl⟩ := Prod.mk.inj he
          clear he
          go_wp2_with fail
          refine wp_region_below (by kernel_rfl) (by kernel_rfl) ?_
          iterate 10 (first
            | (refine stepS rfl ?_; simp only [Act.put, List.setIfInBounds_toArray, List.set_cons_zero, List.set_cons_succ])
            | (refine stepV (v := ?_) rfl (fun W hW => ?_) ?_
               rotate_left
               focus
                 have qc0 := cellB hW.out c0
                 have qc1 := cellB hW.out c1
                 have qc2 := cellB hW.out c2
                 have qc3 := cellB hW.out c3
                 go_simp
                 try with_reducible rfl
                 done
               simp only [Act.put, List.setIfInBounds_toArray, List.set_cons_zero, List.set_cons_succ]))
          refine stepN ?_
          intro w2 hw2
          have HO2 := Lib.hid (And.intro (HO.out.1.keep hw2.out) (HO.out.2.next hw2.out (Nat.le_refl _)))
          clear hw2 c0 c1 c2 c3
          have b4 : (i : Int) + 1 ≤ (qs.length : Int) := by omega
          have b5 : (qs.length : Int) ≤ (cap : Int) := by omega
          have b6 : i + 1 ≤ cap := by omega
          have b7 : i + 1 ≤ qs.length := by omega
          go_wp2_with fail
          go_loopw [3, 5] (fun s3 s5 wr => RelD base g cap 31 qs (i + 1) w s3 s5 wr) (fun _ s5 _ => qs.length - (intOf s5).toNat)
          case atStart =>
            exact ⟨i + 1, 0, qs.toArray, by go_num, rfl, by omega, HO2.out.1, HO2.out.2, CompInv.start HA.out (keeps_neg (by omega) (by rw [HX.out.2, Nat.add_sub_cancel, HX.out.1]))⟩
          case round =>
            obtain ⟨k, m, cs, rfl, rfl, hle, hown, hbut, hI⟩ := hrel
            have hkk := hI.lt
            have hcs : cs.toList.length = qs.length := by simpa using hI.size
            have hrow : wr.ownsRow base 31 2 (.slice (some ⟨g, 0, none⟩) qs.length cap) qs.length (rowQ cs.toList) := by have := hown; unfold OwQ at this; rwa [hcs] at this
            by_cases hlt2 : i + 1 + m + 1 < qs.length
            · have hu := CompInv.at hI (j := i + 1 + m) (by omega) (by omega)
              have hv := CompInv.at hI (j := i + 1 + m + 1) (by omega) hlt2
              have e0 : qs.toArray[i + 1 + m]! = qs[i + 1 + m] := by simp [getElem!_pos, show i + 1 + m < qs.length by omega]
              have e1 : qs.toArray[i + 1 + m + 1]! = qs[i + 1 + m + 1] := by simp [getElem!_pos, hlt2]
              generalize qs[i + 1 + m] = u at *
              generalize qs[i + 1 + m + 1] = v at *
              obtain ⟨u1, u2⟩ := u
              obtain ⟨v1, v2⟩ := v
              obtain ⟨g0, g1⟩ := rowQ_get _ _ _ hu
              obtain ⟨g2, g3⟩ := rowQ_get _ _ _ hv
              rw [show (i + 1 + m) * 2 = (i + 1) * 2 + m * 2 by omega] at g0 g1
              rw [show (i + 1 + m + 1) * 2 = (i + 1) * 2 + (m + 1) * 2 by omega] at g2 g3
              have c0 := (World.ownsRow.cellAt hrow _ (by omega)).trans g0
              have c1 := (World.ownsRow.cellAt hrow _ (by omega)).trans g1
              have c2 := (World.ownsRow.cellAt hrow _ (by omega)).trans g2
              have c3 := (World.ownsRow.cellAt hrow _ (by omega)).trans g3
              obtain ⟨⟨o1, o2⟩, ho⟩ : ∃ q, cs.toList[k]? = some q := ⟨_, List.getElem?_eq_getElem (by omega)⟩
              obtain ⟨g4, g5⟩ := rowQ_get _ _ _ ho
              have c4 := (World.ownsRow.cellAt hrow _ (by omega)).trans g4
              have c5 := (World.ownsRow.cellAt hrow _ (by omega)).trans g5
              have f4 := World.ownsRow.frozenAt hrow (k * 2)
              have f5 := World.ownsRow.frozenAt hrow (k * 2 + 1)
              have HI := Lib.hid (And.intro hown (And.intro hbut hI))
              have HU := Lib.hid (And.intro e0 e1)
              have b0 : (0 : Int) ≤ (m : Int) := by omega
              have b1 : (m : Int) < ((qs.length - (i + 1) : Nat) : Int) := by omega
              have b2 : (m : Int) + 1 < ((qs.length - (i + 1) : Nat) : Int) := by omega
              have b3 : (0 : Int) ≤ (m : Int) + 1 := by omega
              have b8 : (k : Int) < (qs.length : Int) := by omega
              have b9 : (0 : Int) ≤ (k : Int) := by omega
              have t1 : ((m : Int)).toNat = m := by omega
              have t2 : ((m : Int) + 1).toNat = m + 1 := by omega
              have t3 : ((k : Int)).toNat = k := by omega
              have w2 : IntKind.i64.wrap ((m : Int) + 1) = (m : Int) + 1 := IntWalk.i64_in _ (by omega)
              have w3 : IntKind.i64.wrap (m : Int) = (m : Int) := IntWalk.i64_in _ (by omega)
              have w4 : IntKind.i64.wrap ((m : Int) + 1 + 1) = (m : Int) + 1 + 1 := IntWalk.i64_in _ (by omega)
              have w5 : IntKind.i64.wrap ((k : Int) + 1) = (k : Int) + 1 := IntWalk.i64_in _ (by omega)
              clear hrow hown hbut hI e0 e1 g0 g1 g2 g3 g4 g5 ho hu hv
              by_cases he : ((v1, v2) : Q) = (u1, u2)
              · have HK := Lib.hid (show keeps qs.toArray (i + 1 + m + 1) = false from keeps_neg (by omega) (by rw [HU.out.2, Nat.add_sub_cancel, HU.out.1]; exact he))
                obtain ⟨rfl, rfl⟩ := Prod.mk.inj he
                clear he
                go_wp2_with fail
                refine wp_region_below (by kernel_rfl) (by kernel_rfl) ?_
                iterate 10 (first
                  | (refine stepS rfl ?_; simp only [Act.put, List.setIfInBounds_toArray, List.set_cons_zero, List.set_cons_succ])
                  | (refine stepV (v := ?_) rfl (fun W hW => ?_) ?_
                     rotate_left
                     focus
                       have qc0 := cellB hW.out c0
                       have qc1 := cellB hW.out c1
                       have qc2 := cellB hW.out c2
                       have qc3 := cellB hW.out c3
                       go_simp
                       try with_reducible rfl
                       done
                     simp only [Act.put, List.setIfInBounds_toArray, List.set_cons_zero, List.set_cons_succ]))
                refine stepN ?_
                intro w2 hw2
                have HI2 := Lib.hid (And.intro (HI.out.1.keep hw2.out) (HI.out.2.1.next hw2.out (Nat.le_refl _)))
                clear hw2 c0 c1 c2 c3 c4 c5 f4 f5
                go_wp2_with fail
                go_roundw
                case rel => exact ⟨k, m + 1, cs, rfl, by go_num, by omega, HI2.out.1, HI2.out.2, HI.out.2.2.skip HK.out⟩
                case measure => simp [intOf]; omega
              · have HK := Lib.hid (show keeps qs.toArray (i + 1 + m + 1) = true from keeps_pos (by rw [HU.out.2, Nat.add_sub_cancel, HU.out.1]; exact he))
                have hor := q_or he
                clear he
                rcases hor with e1 | ⟨e1, e2⟩
                all_goals
                go_wp2_with fail
                refine wp_region_below (by kernel_rfl) (by kernel_rfl) ?_
                iterate 10 (first
                  | (refine stepS rfl ?_; simp only [Act.put, List.setIfInBounds_toArray, List.set_cons_zero, List.set_cons_succ])
                  | (refine stepV (v := ?_) rfl (fun W hW => ?_) ?_
                     rotate_left
                     focus
                       have qc0 := cellB hW.out c0
                       have qc1 := cellB hW.out c1
                       have qc2 := cellB hW.out c2
                       have qc3 := cellB hW.out c3
                       go_simp
                       try with_reducible rfl
                       done
                     simp only [Act.put, List.setIfInBounds_toArray, List.set_cons_zero, List.set_cons_succ]))
                refine stepN ?_
                intro w2 hw2
                have HI2 := Lib.hid (And.intro (HI.out.1.keep hw2.out) (HI.out.2.1.next hw2.out (Nat.le_refl _)))
                replace c2 := cellB hw2.out c2
                replace c3 := cellB hw2.out c3
                obtain ⟨c4', f4'⟩ := slotB hw2.out ⟨c4, f4⟩
                obtain ⟨c5', f5'⟩ := slotB hw2.out ⟨c5, f5⟩
                clear hw2 c0 c1 c4 c5 f4 f5
                go_wp2_with fail
                have HS := Lib.hid (OwQ.set2 HI2.out.1 hcs (by omega : k < cs.toList.length) v1 v2)
                have HB := Lib.hid ((HI2.out.2.setCell (o := k * 2) (.int .i64 v1)).setCell (o := k * 2 + 1) (.int .i64 v2))
                go_roundw
                case rel =>
                  refine ⟨k + 1, m + 1, cs.setIfInBounds k (v1, v2), by go_num, by go_num, by omega, ?_, HB.out, ?_⟩
                  · rw [Array.toList_setIfInBounds]; exact HS.out
                  · have := HI.out.2.2.keep (by simpa using hlt2) HK.out
                    rwa [HU.out.2] at this
                case measure => simp [intOf]; omega
            · have hend : i + 1 + m + 1 = qs.length := by omega
              have hle2 : k < qs.length := by omega
              have hcl : ∀ ty, (Builtin.clear_ #[43] ty #[.slice (some ⟨g, k * 2, none⟩) (qs.length - k) (cap - k)]).run Tryz.prog wr = .ok (.tuple #[]) (wr.setCells g (k * 2) (Builtin.zeroCells #[.int .i64 0, .int .i64 0] (qs.length - k)).toList) :=
                fun ty => run_clear2 wr _ _ ty _ rat_slice rat_zero rfl rfl g (k * 2) _ _ (by omega) (fun j hj => by rw [World.ownsRow.cellAt hrow _ (by omega)]; rw [List.getElem?_eq_getElem (by rw [rowQ_len]; omega)]; rfl) (fun j hj => World.ownsRow.frozenAt hrow _)
              have HI := Lib.hid (And.intro hown (And.intro hbut hI))
              have b1 : ¬ ((m : Int) + 1 < ((qs.length - (i + 1) : Nat) : Int)) := by omega
              have b8 : (k : Int) ≤ (qs.length : Int) := by omega
              have b9 : (0 : Int) ≤ (k : Int) := by omega
              have b10 : (k : Int) ≤ (cap : Int) := by omega
              have b11 : k ≤ cap := by omega
              have b12 : k ≤ qs.length := by omega
              have t3 : ((k : Int)).toNat = k := by omega
              clear hrow hown hbut hI
              go_wp2_with fail
              go_ret
              have hI := HI.out.2.2
              rw [hend] at hI
              obtain ⟨d1, d2⟩ := comp_done hI
              have h1 : wr.ownsRow base 31 2 (.slice (some ⟨g, 0, none⟩) qs.length cap) qs.length (rowQ cs.toList) := by have := HI.out.1; unfold OwQ at this; rwa [hcs] at this
              obtain ⟨ys, y1, y2, y3⟩ := ownsRow_setCells (Builtin.zeroCells #[.int .i64 0, .int .i64 0] (qs.length - k)).toList wr _ (k * 2) h1
              rw [d1]
              refine ⟨rfl, OwQ.cut y1 (by omega) ?_ d1, HI.out.2.1.trans y3⟩
              rw [y2, ← d2]
              exact rowQ_take _ _
        · have HK := Lib.hid (show keeps qs.toArray (i + 1) = true from keeps_pos (by rw [HX.out.2, Nat.add_sub_cancel, HX.out.1]; exact he))
          have hor := q_or he
          clear he
          rcases hor with e1 | ⟨e1, e2⟩
          all_goals
          go_wp2_with fail
          refine wp_region_below (by kernel_rfl) (by kernel_rfl) ?_
          iterate 10 (first
            | (refine stepS rfl ?_; simp only [Act.put, List.setIfInBounds_toArray, List.set_cons_zero, List.set_cons_succ])
            | (refine stepV (v := ?_) rfl (fun W hW => ?_) ?_
               rotate_left
               focus
                 have qc0 := cellB hW.out c0
                 have qc1 := cellB hW.out c1
                 have qc2 := cellB hW.out c2
                 have qc3 := cellB hW.out c3
                 go_simp
                 try with_reducible rfl
                 done
               simp only [Act.put, List.setIfInBounds_toArray, List.set_cons_zero, List.set_cons_succ]))
          refine stepN ?_
          intro w2 hw2
          have HO2 := Lib.hid (And.intro (HO.out.1.keep hw2.out) (HO.out.2.next hw2.out (Nat.le_refl _)))
          clear hw2 c0 c1 c2 c3
          go_wp2_with fail
          go_roundw
          case rel => exact ⟨i + 1 + 1, by omega, by omega, by go_num, fun j hj => by
            by_cases e : j = i + 1
            · subst e; exact HK.out
            · exact HA.out j (by omega), HO2.out.1, HO2.out.2⟩
          case measure => simp [intOf]; omega
      · obtain rfl : k = qs.length := by omega
        have HA := Lib.hid (And.intro (comp_same hall) (And.intro hown hbut))
        clear hall hown hbut
        go_wp2_with fail
        go_ret
        rw [HA.out.1]
        exact ⟨rfl, HA.out.2.1, HA.out.2.2⟩

end Go.Proofs.YtkeajfgcjmhmiaaGreat

namespace Go.Proofs.YtkeajfgcjmhmiaaGreat
open Go.RowKit

theorem compact_nil (w : World) : Calls Tryz.prog 181 #[.slice none 0 0] w fun e w' => e = .returned (.slice none 0 0) ∧ w' = w := by
  go_enter Tryz.func181, Tryz.ntmps181
  go_wp2_with fail
  go_ret
  exact ⟨rfl, rfl⟩

/-- What rising leaves: a row in the block that the list had. -/
def RiseEnd (base : Nat) (e : TypeId) (v : Value) (qs : List Q) (w : World) (x : Ending) (w' : World) : Prop :=
  ∃ r, x = .returned r ∧ OwQ base e w' r (setQ qs) ∧ r.ownBlock = v.ownBlock ∧ ∀ g, (∀ b, v.ownBlock = some b → b = g) → But g w w'

theorem rising_is (base : Nat) (v : Value) (qs : List Q) (w : World) (h : OwQ base 31 w v qs) (ho : OkL qs) (hn : qs.length ≤ 1000000000) :
    Calls Tryz.prog 154 #[v] w (RiseEnd base 31 v qs w) := by
  have HW := Lib.hid h
  rcases h.2 with ⟨rfl, hz⟩ | ⟨g, cap, cur, rfl, hb, hh, hle, hm, hc, ht⟩
  · obtain rfl := List.eq_nil_of_length_eq_zero hz
    have hcon := AnyF.slices_SortFunc_none Tryz.sortQ none 0 (.func (.func 160) #[] #[]) w
    change Calls Tryz.prog 180 _ _ _ at hcon
    clear h hz
    go_enter Tryz.func154, Tryz.ntmps154
    go_wp2_with fail
    refine hcon.mono ?_
    rintro e w' ⟨rfl, rfl⟩
    go_wp2_with fail
    refine (compact_nil _).mono ?_
    rintro e w' ⟨rfl, rfl⟩
    go_wp2_with fail
    go_ret
    exact ⟨_, rfl, HW.out, rfl, fun g _ => But.refl _ _⟩
  · have HH := Lib.hid (And.intro hle hm)
    clear h hb hh hc ht hle hm cur
    go_enter Tryz.func154, Tryz.ntmps154
    go_wp2_with fail
    refine (sort_is base _ qs w HW.out ho hn).mono ?_
    rintro e w1 ⟨rfl, rs, hown, hlen, hmem, hp, hok, hbut⟩
    have HO := Lib.hid hown
    have HS := Lib.hid (setQ_of (r := compQ rs) ho (compQ_up hok hp) (fun x => by rw [compQ_mem, hmem]))
    have HB := Lib.hid hbut
    clear hown hmem hp hok hbut
    go_wp2_with fail
    rw [← hlen]
    refine (compact_is base g cap rs w1 (by rw [hlen]; exact HO.out) (by have := HH.out.1; omega) HH.out.2).mono ?_
    rintro e w2 ⟨rfl, hown, hb2⟩
    rw [HS.out] at hown
    rw [HS.out]
    have HO2 := Lib.hid (And.intro hown hb2)
    clear hown hb2
    go_wp2_with fail
    go_ret
    refine ⟨_, rfl, HO2.out.1, rfl, fun k hk => ?_⟩
    obtain rfl := hk g rfl
    exact (HB.out g (fun b hb => by simpa [Value.ownBlock] using hb.symm)).trans HO2.out.2

/-- The X of two maps. -/
def bothQ (f g : List Pt) : List Q := setQ (f.map (·.1) ++ g.map (·.1))
theorem okL_xs {ps : List Pt} (h : okMap ps = true) : OkL (ps.map (·.1)) := fun q hq => by
  obtain ⟨p, hp, rfl⟩ := List.mem_map.1 hq
  obtain ⟨i, hi⟩ := List.getElem?_of_mem hp
  exact unitQ_ok (coordQ_unit (okMap_coord h hi).1)
theorem OkL.app {a b : List Q} (h : OkL a) (k : OkL b) : OkL (a ++ b) := fun q hq => by
  rcases List.mem_append.1 hq with hq | hq
  · exact h q hq
  · exact k q hq

set_option maxRecDepth 100000 in
set_option maxHeartbeats 1600000 in
theorem bothAt_is (f g : List Pt) (vf vg : Value) (w : World) (hf : RdP w vf f) (hg : RdP w vg g) (mf : okMap f = true) (mg : okMap g = true) :
    Calls Tryz.prog 89 #[vf, vg] w (RetQ w (bothQ f g)) := by
  have HF := Lib.hid hf
  have HG := Lib.hid hg
  have l1 := okMap_len mf
  have l2 := okMap_len mg
  have o1 := okL_xs mf
  have o2 := okL_xs mg
  clear hf hg mf mg
  go_enter Tryz.func89, Tryz.ntmps89
  go_wp2_with fail
  refine (xsOf_any f _ w HF.out (by omega)).mono ?_
  rintro e w1 ⟨r1, rfl, os1, hb1⟩
  have H1 := Lib.hid os1
  have B1 := Lib.hid hb1
  have z1 := hb1.size
  clear os1 hb1
  go_wp2_with fail
  refine (xsOf_any g _ w1 (HG.out.keep B1.out) (by omega)).mono ?_
  rintro e w2 ⟨r2, rfl, os2, hb2⟩
  have H2 := Lib.hid os2
  have B2 := Lib.hid hb2
  have z2 := hb2.size
  clear os2 hb2
  have hL1 : RdQ w2 r2 (g.map (·.1)) := H2.out.read
  have hO1 : OwQ w.heap.size 31 w2 r1 (f.map (·.1)) := H1.out.keep B2.out
  have hS1 : (f.map (·.1)).length + (g.map (·.1)).length ≤ 1000000 := by simp; omega
  have hz1 : w.heap.size ≤ w2.heap.size := by omega
  go_wp2_with (at_builtin; refine append_rd _ rfl (.tmp 6) (.tmp 8) rfl w.heap.size r1 r2 (f.map (·.1)) (g.map (·.1)) rfl hO1 rfl hL1 hS1 hz1 ?_; intro v' w' h1 h2)
  have H3 := Lib.hid h1
  have B3 := Lib.hid h2
  clear h1 h2
  refine (rising_is w.heap.size _ _ _ H3.out (o1.app o2) (by simp; omega)).mono ?_
  rintro e w4 ⟨r4, rfl, os4, he, hb4⟩
  have B4 : Below w.heap.size w w4 := by
    have b3 : Below w.heap.size w w' := Below.trans (Below.trans B1.out (B2.out.mono z1)) B3.out
    obtain ⟨k, hk, hk2⟩ : ∃ k, w.heap.size ≤ k ∧ ∀ b, v'.ownBlock = some b → b = k := by
      rcases hv : v'.ownBlock with _ | b
      · exact ⟨w.heap.size, Nat.le_refl _, fun b hb => by simp at hb⟩
      · exact ⟨b, (World.ownsRow.lt H3.out b hv).1, fun c hc => by simpa using hc.symm⟩
    exact But.below b3 (hb4 k hk2) hk b3.size
  have H4 := Lib.hid (And.intro os4 B4)
  clear os4 B4 hb4
  go_wp2_with fail
  go_ret
  exact ⟨_, rfl, H4.out.1, H4.out.2⟩

end Go.Proofs.YtkeajfgcjmhmiaaGreat

namespace Go.Proofs.YtkeajfgcjmhmiaaGreat
open Go.RowKit

/-- A variable that holds a point: a block of its own. -/
def VarP (wx : World) (s : Value) (lo : Nat) (a b c d : Int) : Prop := ∃ g, s = .pointer (some ⟨g, 0, none⟩) ∧ lo ≤ g ∧ wx.cell? ⟨g, 0, none⟩ = some (.int .i64 a) ∧ wx.cell? ⟨g, 1, none⟩ = some (.int .i64 b) ∧ wx.cell? ⟨g, 2, none⟩ = some (.int .i64 c) ∧ wx.cell? ⟨g, 3, none⟩ = some (.int .i64 d)
end Go.Proofs.YtkeajfgcjmhmiaaGreat
