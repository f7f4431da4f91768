/- Draws of FnRatTexts: spoilt texts; DrawIsRat, DrawRatText, DrawParseRat, DrawMakeRat, DrawRoundDownTo. -/
import Derived.Test.YtkeajfgcjmhmiaaGreatDoorM28
import Derived.Test.YtkeajfgcjmhmiaaGreatDoorM8
namespace Go.Proofs.YtkeajfgcjmhmiaaGreatDoor
open Go.RowKit

theorem str_to (s : List UInt8) (i : Nat) (W : World) (h : i ≤ s.length) : (Instr.slice 9 (str s) none (some (.int .i64 i)) none).run Tryz.prog W = .ok (str (s.take i)) W := by
  have hz : (⟨s.toArray⟩ : ByteArray).size = s.length := str_size s
  unfold str
  rw [run_slice_string_h W 9 ⟨s.toArray⟩ (by kernel_rfl) .i64 i (by omega) (by omega)]
  congr 3
  rw [Lib.extract_eq]
  simp
def StrDrew (g : Nat) (v : Value) (m N : Nat) (w : World) (e : Ending) (w' : World) : Prop := ∃ l : List UInt8, e = .returned (str l) ∧ l.length ≤ N ∧ Cur g v m w' ∧ But g w w'

def RelSpo (g : Nat) (v : Value) (n T : Nat) (w : World) (t i : Value) (wr : World) : Prop :=
  ∃ (m : Nat) (l : List UInt8), m ≤ 2 ∧ i = .int .i64 m ∧ t = str l ∧ l.length + m ≤ T + 2 ∧ DS g v (n + 2 + 6 * (2 - m)) w wr
set_option maxRecDepth 100000 in
set_option maxHeartbeats 6400000 in
theorem spoilt_is (g : Nat) (v : Value) (n : Nat) (t u : List UInt8) (w : World) (hc : Cur g v n w) (hv : Code g w v) (hn : n + 40 ≤ 1000000000) (ht : t.length ≤ 900000) (hu : 1 ≤ u.length ∧ u.length ≤ 1000) :
    Calls Tryz.prog 35 #[.pointer (some ⟨g, 0, none⟩), str t, str u] w (StrDrew g v (n + 14) (t.length + 2) w) := by
  have fu : ∀ W, (Builtin.len_ #[9] 3 #[str u]).run Tryz.prog W = .ok (.int .i64 u.length) W := fun W => str_len _ _ u W (by kernel_rfl)
  have hg := lt_of_cell hc.code.1
  have HD := Lib.hid (DS.start hc hv)
  clear hc hv
  go_enter Tryz.func35, Tryz.ntmps35
  go_wp2_with fail
  refine (pick_is g v _ 2 _ (HD.out.cur.keep (by go_grown)) (HD.out.code.keep (by go_grown)) (by omega) (by omega)).mono ?_
  rintro e w1 ⟨x, rfl, hx, hc, hb⟩
  have HD1 := Lib.hid (HD.out.step (by go_grown) hc hb)
  have vx : IntKind.i64.wrap (1 + x) = 1 + x := IntWalk.i64_in _ (by omega)
  clear hc hb
  go_wp2_with fail
  go_loopw [1, 7] (fun s i wr => RelSpo g v n t.length w s i wr) (fun _ i _ => (intOf i).toNat)
  case atStart =>
    obtain ⟨m, hm⟩ : ∃ m : Nat, 1 + x = m := ⟨(1 + x).toNat, by omega⟩
    refine ⟨m, t, by omega, by rw [hm], rfl, by omega, ?_⟩
    have h := HD1.out
    exact ⟨h.cur.more (by omega), h.code, h.but⟩
  case round =>
    obtain ⟨m, l, hm, rfl, rfl, hlen, hds⟩ := hrel
    have HD2 := Lib.hid hds
    have gl2 := hds.lt
    have fl : ∀ W, (Builtin.len_ #[9] 3 #[str l]).run Tryz.prog W = .ok (.int .i64 l.length) W := fun W => str_len _ _ l W (by kernel_rfl)
    clear hds vx
    by_cases h0 : 0 < m ∧ 0 < l.length
    · have b0 : (0 : Int) < (m : Int) := by omega
      have b1 : (0 : Int) < (l.length : Int) := by omega
      have n0 : 0 < m := h0.1
      have n1 : 0 < l.length := h0.2
      have d0 : decide ((0 : Int) < (m : Int)) = true := by simpa using n0
      go_wp2_with fail
      refine (pick_is g v _ l.length _ (HD2.out.cur.keep (by go_grown)) (HD2.out.code.keep (by go_grown)) (by omega) (by omega)).mono ?_
      rintro e w3 ⟨y, rfl, hy, hc, hb⟩
      have HD3 := Lib.hid (HD2.out.step (by go_grown) hc hb)
      obtain ⟨i, rfl⟩ : ∃ i : Nat, y = i := ⟨y.toNat, by omega⟩
      have hi : i < l.length := by omega
      clear hc hb hy
      go_wp2_with fail
      refine (pick_is g v _ u.length _ (HD3.out.cur.keep (by go_grown)) (HD3.out.code.keep (by go_grown)) (by omega) (by omega)).mono ?_
      rintro e w4 ⟨z, rfl, hz, hc, hb⟩
      have HD4 := Lib.hid (HD3.out.step (by go_grown) hc hb)
      obtain ⟨j, rfl⟩ : ∃ j : Nat, z = j := ⟨z.toNat, by omega⟩
      have hj : j < u.length := by omega
      obtain ⟨c, hcj⟩ : ∃ c, u[j]? = some c := ⟨_, List.getElem?_eq_getElem hj⟩
      have fa : ∀ W, (Instr.index 9 (str u) (.int .i64 j)).run Tryz.prog W = .ok (.int .u8 c.toNat) W := fun W => str_at u j c W hcj
      have hcv : ∀ (W : World) (b : Nat), W.cell? ⟨b, 0, none⟩ = some (.int .u8 (c.toNat : Int)) → (convert 22 9 (.slice (some ⟨b, 0, none⟩) 1 1)).run Tryz.prog W = .ok (.string ⟨#[c]⟩) W := fun W b hw => by
        have := run_str1 W b (c.toNat : Int) (by have := c.toNat_lt; omega) hw
        rw [this]
        simp
      clear hc hb hz hcj
      go_wp2_with fail
      refine (pick_is g v _ 3 _ (HD4.out.cur.keep (by go_grown)) (HD4.out.code.keep (by go_grown)) (by omega) (by omega)).mono ?_
      rintro e w5 ⟨k, rfl, hk, hc, hb⟩
      have HD5 := Lib.hid (HD4.out.step (by go_grown) hc hb)
      clear hc hb
      have f1 : ∀ W, (Instr.slice 9 (str l) none (some (.int .i64 i)) none).run Tryz.prog W = .ok (str (l.take i)) W := fun W => str_to l i W (by omega)
      have f2 : ∀ W, (Instr.slice 9 (str l) (some (.int .i64 i)) none none).run Tryz.prog W = .ok (str (l.drop i)) W := fun W => str_rest l i W (by omega)
      have f3 : ∀ W, (Instr.slice 9 (str l) (some (.int .i64 ((i : Int) + 1))) none none).run Tryz.prog W = .ok (str (l.drop (i + 1))) W := fun W => by
        have := str_rest l (i + 1) W (by omega)
        rwa [show ((i + 1 : Nat) : Int) = (i : Int) + 1 from by omega] at this
      have v1 : IntKind.i64.wrap ((i : Int) + 1) = (i : Int) + 1 := IntWalk.i64_in _ (by omega)
      have v2 : IntKind.i64.wrap ((m : Int) - 1) = ((m - 1 : Nat) : Int) := by rw [IntWalk.i64_in _ (by omega)]; omega
      have lt1 : (l.take i).length = i := by rw [List.length_take]; omega
      have ld1 : (l.drop i).length = l.length - i := List.length_drop
      have ld2 : (l.drop (i + 1)).length = l.length - (i + 1) := List.length_drop
      obtain ⟨p1, hp1⟩ : ∃ p, p = l.take i ++ [c] := ⟨_, rfl⟩
      obtain ⟨q1, hq1⟩ : ∃ q, q = p1 ++ l.drop i := ⟨_, rfl⟩
      obtain ⟨q2, hq2⟩ : ∃ q, q = p1 ++ l.drop (i + 1) := ⟨_, rfl⟩
      obtain ⟨q3, hq3⟩ : ∃ q, q = l.take i ++ l.drop (i + 1) := ⟨_, rfl⟩
      have lp1 : p1.length = i + 1 := by rw [hp1]; simp; omega
      have g1 : ∀ W, (binOp .add 9 (str (l.take i)) (.string ⟨#[c]⟩)).run Tryz.prog W = .ok (str p1) W := fun W => by rw [hp1]; exact run_cat W _ [c] (by omega) (by simp)
      have g2 : ∀ W, (binOp .add 9 (str p1) (str (l.drop i))).run Tryz.prog W = .ok (str q1) W := fun W => by rw [hq1]; exact run_cat W _ _ (by omega) (by omega)
      have g3 : ∀ W, (binOp .add 9 (str p1) (str (l.drop (i + 1)))).run Tryz.prog W = .ok (str q2) W := fun W => by rw [hq2]; exact run_cat W _ _ (by omega) (by omega)
      have g4 : ∀ W, (binOp .add 9 (str (l.take i)) (str (l.drop (i + 1)))).run Tryz.prog W = .ok (str q3) W := fun W => by rw [hq3]; exact run_cat W _ _ (by omega) (by omega)
      have hl1 : q1.length = l.length + 1 := by rw [hq1, List.length_append]; omega
      have hl2 : q2.length = l.length := by rw [hq2, List.length_append]; omega
      have hl3 : q3.length + 1 = l.length := by rw [hq3, List.length_append]; omega
      clear hp1 hq1 hq2 hq3 lt1 ld1 ld2
      have HE : ∀ W, Below w5.heap.size w5 W → DS g v (n + 2 + 6 * (2 - (m - 1))) w W := fun W hW => by
        have h := HD5.out.grow hW
        exact ⟨h.cur.more (by omega), h.code, h.but⟩
      have HE2 := Lib.hid HE
      clear HE
      by_cases k0 : k = 0
      · subst k0
        go_wp2_with fail
        go_name_world W0 hW
        have hB0 : Below w5.heap.size w5 W0 := by rw [← hW]; go_grown
        clear hW
        refine wp_region_below (by kernel_rfl) (by kernel_rfl) ?_
        iterate 10 (first
          | (refine stepV (v := ?_) rfl (fun W hW => ?_) ?_
             rotate_left
             focus
               go_simp
               try with_reducible rfl
               done
             simp only [Act.put, List.setIfInBounds_toArray, List.set_cons_zero, List.set_cons_succ]))
        refine stepN ?_
        intro w6 hw6
        have hX := nextW hB0 hw6.out
        clear hw6 hB0
        go_wp2_with fail
        go_roundw
        case rel => exact ⟨m - 1, q1, by omega, by go_num, rfl, by omega, HE2.out _ (by go_grown)⟩
        case measure => simp [intOf]; omega
      · by_cases k1 : k = 1
        · subst k1
          go_wp2_with fail
          go_name_world W0 hW
          have hB0 : Below w5.heap.size w5 W0 := by rw [← hW]; go_grown
          clear hW
          refine wp_region_below (by kernel_rfl) (by kernel_rfl) ?_
          iterate 11 (first
            | (refine stepV (v := ?_) rfl (fun W hW => ?_) ?_
               rotate_left
               focus
                 go_simp
                 try with_reducible rfl
                 done
               simp only [Act.put, List.setIfInBounds_toArray, List.set_cons_zero, List.set_cons_succ]))
          refine stepN ?_
          intro w6 hw6
          have hX := nextW hB0 hw6.out
          clear hw6 hB0
          go_wp2_with fail
          go_roundw
          case rel => exact ⟨m - 1, q2, by omega, by go_num, rfl, by omega, HE2.out _ (by go_grown)⟩
          case measure => simp [intOf]; omega
        · have e0 : (k == 0) = false := by simpa using k0
          have e1 : (k == 1) = false := by simpa using k1
          go_wp2_with fail
          go_name_world W0 hW
          have hB0 : Below w5.heap.size w5 W0 := by rw [← hW]; go_grown
          clear hW
          refine wp_region_below (by kernel_rfl) (by kernel_rfl) ?_
          iterate 9 (first
            | (refine stepV (v := ?_) rfl (fun W hW => ?_) ?_
               rotate_left
               focus
                 go_simp
                 try with_reducible rfl
                 done
               simp only [Act.put, List.setIfInBounds_toArray, List.set_cons_zero, List.set_cons_succ]))
          refine stepN ?_
          intro w6 hw6
          have hX := nextW hB0 hw6.out
          clear hw6 hB0
          go_wp2_with fail
          go_roundw
          case rel => exact ⟨m - 1, q3, by omega, by go_num, rfl, by omega, HE2.out _ (by go_grown)⟩
          case measure => simp [intOf]; omega
    · have HZ : ∃ l', str l = str l' ∧ l'.length ≤ t.length + 2 := ⟨l, rfl, by omega⟩
      by_cases m0 : m = 0
      · subst m0
        go_wp2_with fail
        go_ret
        exact ⟨l, rfl, by omega, HD2.out.cur.more (by omega), HD2.out.but⟩
      · have hl0 : l = [] := List.eq_nil_of_length_eq_zero (by omega)
        subst hl0
        have b0 : (0 : Int) < (m : Int) := by omega
        have n0 : 0 < m := by omega
        have d0 : decide ((0 : Int) < (m : Int)) = true := by simpa using n0
        have fz : ∀ W, (Builtin.len_ #[9] 3 #[str []]).run Tryz.prog W = .ok (.int .i64 0) W := fun W => str_len _ _ [] W (by kernel_rfl)
        clear fl
        go_wp2_with fail
        go_ret
        exact ⟨[], rfl, by simp, HD2.out.cur.more (by omega), HD2.out.but⟩

end Go.Proofs.YtkeajfgcjmhmiaaGreatDoor
