/- Draws of FnRatTexts: DrawIsRat, DrawRatText, DrawParseRat, DrawMakeRat, DrawRoundDownTo. -/
import Derived.Test.YtmabngjmfjjogaaDoorSpo
namespace Go.Proofs.YtmabngjmfjjogaaDoor
open Go.RowKit

theorem RdN.codeT {w : World} {v : Value} {bs : List Int} (h : RdN .u8 w v bs) (hb : ∀ x ∈ bs, 0 ≤ x ∧ x ≤ 255) {W : World} (hX : Below w.heap.size w W) {g : Nat} (hg : w.heap.size ≤ g) : Code g W v :=
  ⟨bs, h.keep hX, hb, fun hne b o n c he => by
    obtain ⟨A, c2, rfl, _, _, h3⟩ := h
    obtain ⟨b2, o2, rfl, hlt, _⟩ := h3 hne
    injection he with h1 _ _
    injection h1 with h1
    injection h1 with h1
    omega⟩

set_option maxRecDepth 100000 in
set_option maxHeartbeats 1600000 in
theorem drawIsRat_is (v : Value) (bs : List Int) (w : World) (hv : RdN .u8 w v bs) (hb : ∀ x ∈ bs, 0 ≤ x ∧ x ≤ 255) :
    Calls Tryd.prog 84 #[v] w (fun e w' => ∃ a b : Int, e = .returned (.agg #[.int .i64 a, .int .i64 b]) ∧ (I64 a ∧ I64 b) ∧ Below w.heap.size w w') := by
  have HV := Lib.hid hv
  have HBs := Lib.hid hb
  obtain ⟨A, cv, rfl, hl, hm, hcell⟩ := hv
  clear hb hcell
  go_enter Tryd.func84, Tryd.ntmps84
  go_wp2_with fail
  refine (anyRat_is (w.heap.size + 1) _ 0 _ ⟨⟨by simp [go_sem], by simp [go_sem]⟩, ⟨0, Nat.le_refl _, by simp [go_sem], by simp [go_sem]⟩, 0, by omega, by omega, by simp [go_sem], by simp [go_sem]⟩ (HV.out.codeT HBs.out (by go_grown) (by omega)) (by omega)).mono ?_
  rintro e w1 ⟨a, b, rfl, hab, hc, hb⟩
  have q0 : Slot w1 w.heap.size 0 (.int .i64 0) := slotU hb (by omega) ⟨by simp [go_sem], by simp [go_sem]⟩
  have q1 : Slot w1 w.heap.size 1 (.int .i64 0) := slotU hb (by omega) ⟨by simp [go_sem], by simp [go_sem]⟩
  have hB1 : Below w.heap.size w w1 := But.below (by go_grown : Below w.heap.size w _) hb (by omega) (by go_size)
  clear hc hb
  obtain ⟨p0, f0⟩ := q0
  obtain ⟨p1, f1⟩ := q1
  go_wp2_with fail
  refine bodyPost_ret (v := .agg #[.int .i64 a, .int .i64 b]) (by simp [results, Tryd.results84, go_sem, p0, p1]) rfl ⟨a, b, rfl, hab, ?_⟩
  go_grown

set_option maxRecDepth 100000 in
set_option maxHeartbeats 1600000 in
theorem drawRatText_is (v : Value) (bs : List Int) (w : World) (hv : RdN .u8 w v bs) (hb : ∀ x ∈ bs, 0 ≤ x ∧ x ≤ 255) :
    Calls Tryd.prog 41 #[v] w (fun e w' => ∃ a b : Int, e = .returned (.agg #[.int .i64 a, .int .i64 b]) ∧ (I64 a ∧ I64 b) ∧ Below w.heap.size w w') := by
  have HV := Lib.hid hv
  obtain ⟨A, cv, rfl, hl, hm, hcell⟩ := hv
  clear hcell
  go_enter Tryd.func41, Tryd.ntmps41
  go_wp2_with fail
  refine (drawIsRat_is _ bs _ (HV.out.keep (by go_grown)) hb).mono ?_
  rintro e w1 ⟨a, b, rfl, hab, h1⟩
  have hB : Below w.heap.size w w1 := nextX (by go_grown) h1
  have r0 : Slot w1 w.heap.size 0 (.int .i64 0) := slotB h1 ⟨by simp [go_sem], by simp [go_sem]⟩
  have r1 : Slot w1 w.heap.size 1 (.int .i64 0) := slotB h1 ⟨by simp [go_sem], by simp [go_sem]⟩
  clear h1
  obtain ⟨q0, k0⟩ := r0
  obtain ⟨q1, k1⟩ := r1
  go_wp2_with fail
  refine bodyPost_ret (v := .agg #[.int .i64 a, .int .i64 b]) (by simp [results, Tryd.results41, go_sem, q0, q1]) rfl ⟨a, b, rfl, hab, ?_⟩
  go_grown

set_option maxRecDepth 100000 in
set_option maxHeartbeats 3200000 in
theorem drawRound_is (v : Value) (bs : List Int) (w : World) (hv : RdN .u8 w v bs) (hb : ∀ x ∈ bs, 0 ≤ x ∧ x ≤ 255) :
    Calls Tryd.prog 45 #[v] w (fun e w' => ∃ a b m : Int, e = .returned (.tuple #[.agg #[.int .i64 a, .int .i64 b], .int .i64 m]) ∧ (I64 a ∧ I64 b) ∧ (0 ≤ m ∧ m ≤ 1000000001) ∧ Below w.heap.size w w') := by
  have HV := Lib.hid hv
  have HBs := Lib.hid hb
  obtain ⟨A, cv, rfl, hl, hm, hcell⟩ := hv
  clear hb hcell
  go_enter Tryd.func45, Tryd.ntmps45
  go_wp2_with fail
  refine (anyRat_is (w.heap.size + 1) _ 0 _ ⟨⟨by simp [go_sem], by simp [go_sem]⟩, ⟨0, Nat.le_refl _, by simp [go_sem], by simp [go_sem]⟩, 0, by omega, by omega, by simp [go_sem], by simp [go_sem]⟩ (HV.out.codeT HBs.out (by go_grown) (by omega)) (by omega)).mono ?_
  rintro e w1 ⟨a, b, rfl, hab, hc, hb⟩
  have q0 : Slot w1 w.heap.size 0 (.int .i64 0) := slotU hb (by omega) ⟨by simp [go_sem], by simp [go_sem]⟩
  have q1 : Slot w1 w.heap.size 1 (.int .i64 0) := slotU hb (by omega) ⟨by simp [go_sem], by simp [go_sem]⟩
  have hB1 : Below w.heap.size w w1 := But.below (by go_grown : Below w.heap.size w _) hb (by omega) (by go_size)
  have HD1 := Lib.hid (DS.start hc (Code.keepU (HV.out.codeT HBs.out (by go_grown) (by omega)) hb))
  clear hc hb
  have gl1 := HD1.out.lt
  go_wp2_with fail
  refine (among_is (w.heap.size + 1) _ _ [0, 1000000001] _ _ (HD1.out.cur.keep (by go_grown)) (HD1.out.code.keep (by go_grown)) (by omega) (RdN.made .i64 _ [0, 1000000001] _ (by simp [maxLen])) (by intro b o n c h; injection h with h; injection h with h; injection h with h; omega) (by simp)).mono ?_
  rintro e w2 ⟨x, rfl, hx, hc, hb⟩
  have HD2 := Lib.hid (HD1.out.step (by go_grown) hc hb)
  replace q0 := DS.slot (by go_grown) hb (by omega) q0
  replace q1 := DS.slot (by go_grown) hb (by omega) q1
  clear hc hb
  have gl2 := HD2.out.lt
  go_wp2_with fail
  refine (among_is (w.heap.size + 1) _ _ [1, 2, 8, 10, 1000, 1000000000, x] _ _ (HD2.out.cur.keep (by go_grown)) (HD2.out.code.keep (by go_grown)) (by omega) (RdN.made .i64 _ [1, 2, 8, 10, 1000, 1000000000, x] _ (by simp [maxLen])) (by intro b o n c h; injection h with h; injection h with h; injection h with h; omega) (by simp)).mono ?_
  rintro e w3 ⟨y, rfl, hy, hc, hb⟩
  have HD3 := Lib.hid (HD2.out.step (by go_grown) hc hb)
  replace q0 := DS.slot (by go_grown) hb (by omega) q0
  replace q1 := DS.slot (by go_grown) hb (by omega) q1
  have hy2 : 0 ≤ y ∧ y ≤ 1000000001 := by simp at hx hy; omega
  clear hc hb hx hy
  obtain ⟨p0, f0⟩ := q0
  obtain ⟨p1, f1⟩ := q1
  have hBw : Below w.heap.size w w3 := But.below hB1 HD3.out.but (by omega) (by have := hB1.size; omega)
  go_wp2_with fail
  refine bodyPost_ret (v := .tuple #[.agg #[.int .i64 a, .int .i64 b], .int .i64 y]) (by simp [results, Tryd.results45, go_sem, p0, p1]) rfl ⟨a, b, y, rfl, hab, hy2, ?_⟩
  go_grown

set_option maxRecDepth 100000 in
set_option maxHeartbeats 3200000 in
theorem drawMake_is (v : Value) (bs : List Int) (w : World) (hv : RdN .u8 w v bs) (hb : ∀ x ∈ bs, 0 ≤ x ∧ x ≤ 255) :
    Calls Tryd.prog 49 #[v] w (fun e w' => ∃ a b : Int, e = .returned (.tuple #[.int .i64 a, .int .i64 b]) ∧ (I64 a ∧ I64 b) ∧ Below w.heap.size w w') := by
  have HV := Lib.hid hv
  have HBs := Lib.hid hb
  obtain ⟨A, cv, rfl, hl, hm, hcell⟩ := hv
  clear hb hcell
  go_enter Tryd.func49, Tryd.ntmps49
  go_wp2_with fail
  refine (pick_is w.heap.size _ 0 2001 _ ⟨⟨by simp [go_sem], by simp [go_sem]⟩, ⟨0, Nat.le_refl _, by simp [go_sem], by simp [go_sem]⟩, 0, by omega, by omega, by simp [go_sem], by simp [go_sem]⟩ (HV.out.codeT HBs.out (by go_grown) (by omega)) (by omega) (by omega)).mono ?_
  rintro e w1 ⟨z, rfl, hz, hc, hb⟩
  have hB1 : Below w.heap.size w w1 := But.below (by go_grown : Below w.heap.size w _) hb (by omega) (by go_size)
  have HD1 := Lib.hid (DS.start hc (Code.keepU (HV.out.codeT HBs.out (by go_grown) (by omega)) hb))
  have vz : IntKind.i64.wrap (z - 1000) = z - 1000 := IntWalk.i64_in _ (by omega)
  clear hc hb
  have gl1 := HD1.out.lt
  go_wp2_with fail
  refine (among_is w.heap.size _ _ [1000000000000000001, -9223372036854775808] _ _ (HD1.out.cur.keep (by go_grown)) (HD1.out.code.keep (by go_grown)) (by omega) (RdN.made .i64 _ [1000000000000000001, -9223372036854775808] _ (by simp [maxLen])) (by intro b o n c h; injection h with h; injection h with h; injection h with h; omega) (by simp)).mono ?_
  rintro e w2 ⟨x, rfl, hx, hc, hb⟩
  have HD2 := Lib.hid (HD1.out.step (by go_grown) hc hb)
  have hx2 : I64 x := by simp at hx; unfold I64; omega
  clear hc hb hx
  have gl2 := HD2.out.lt
  have HL : ∀ X : World, Below w2.heap.size w2 X → RdN .i64 (X.alloc (.cells (([0, 1, -1, 6, -4, 12, z - 1000, 1000000000, 1000000001, 1000000000000000000, -1000000000000000000, x].map (Value.int .i64)).toArray) 3)) (.slice (some ⟨X.heap.size, 0, none⟩) 12 12) [0, 1, -1, 6, -4, 12, z - 1000, 1000000000, 1000000001, 1000000000000000000, -1000000000000000000, x] := fun X _ => RdN.made .i64 X [0, 1, -1, 6, -4, 12, z - 1000, 1000000000, 1000000001, 1000000000000000000, -1000000000000000000, x] 3 (by simp [maxLen])
  have HL2 := Lib.hid HL
  clear HL
  go_wp2_with fail
  refine (among_is w.heap.size _ _ [0, 1, -1, 6, -4, 12, z - 1000, 1000000000, 1000000001, 1000000000000000000, -1000000000000000000, x] _ _ (HD2.out.cur.keep (by go_grown)) (HD2.out.code.keep (by go_grown)) (by omega) (HL2.out _ (by go_grown)) (by intro b o n c h; injection h with h; injection h with h; injection h with h; omega) (by simp)).mono ?_
  rintro e w3 ⟨y, rfl, hy, hc, hb⟩
  have HR3 := Lib.hid (RdN.keepU (HL2.out w2 (by go_grown)) hb (by intro _ b o n c h; injection h with h; injection h with h; injection h with h; omega))
  have HD3 := Lib.hid (HD2.out.step (by go_grown) hc hb)
  have hy2 : I64 y := by unfold I64 at hx2 ⊢; simp at hy; omega
  clear hc hb hy
  have gl3 := HD3.out.lt
  go_wp2_with fail
  refine (among_is w.heap.size _ _ [0, 1, -1, 6, -4, 12, z - 1000, 1000000000, 1000000001, 1000000000000000000, -1000000000000000000, x] _ _ (HD3.out.cur.keep (by go_grown)) (HD3.out.code.keep (by go_grown)) (by omega) (HR3.out.keep (by go_grown)) (by intro b o n c h; injection h with h; injection h with h; injection h with h; omega) (by simp)).mono ?_
  rintro e w4 ⟨u, rfl, hu, hc, hb⟩
  have HD4 := Lib.hid (HD3.out.step (by go_grown) hc hb)
  have hu2 : I64 u := by unfold I64 at hx2 ⊢; simp at hu; omega
  clear hc hb hu
  have hBw : Below w.heap.size w w4 := But.below hB1 HD4.out.but (by omega) (by have := hB1.size; omega)
  go_wp2_with fail
  go_ret2
  exact ⟨y, u, rfl, ⟨hy2, hu2⟩, by go_grown⟩

set_option maxRecDepth 100000 in
set_option maxHeartbeats 3200000 in
theorem drawParse_is (v : Value) (bs : List Int) (w : World) (hv : RdN .u8 w v bs) (hb : ∀ x ∈ bs, 0 ≤ x ∧ x ≤ 255) :
    Calls Tryd.prog 52 #[v] w (fun e w' => ∃ l : List UInt8, e = .returned (str l) ∧ l.length ≤ 45 ∧ Below w.heap.size w w') := by
  have HV := Lib.hid hv
  have HBs := Lib.hid hb
  obtain ⟨A, cv, rfl, hl, hm, hcell⟩ := hv
  clear hb hcell
  go_enter Tryd.func52, Tryd.ntmps52
  go_wp2_with fail
  refine (rat_ok w.heap.size _ 0 _ ⟨⟨by simp [go_sem], by simp [go_sem]⟩, ⟨0, Nat.le_refl _, by simp [go_sem], by simp [go_sem]⟩, 0, by omega, by omega, by simp [go_sem], by simp [go_sem]⟩ (HV.out.codeT HBs.out (by go_grown) (by omega)) (by omega)).mono ?_
  rintro e w1 ⟨a, b, rfl, hab, hc, hb⟩
  have hB1 : Below w.heap.size w w1 := But.below (by go_grown : Below w.heap.size w _) hb (by omega) (by go_size)
  have HD1 := Lib.hid (DS.start hc (Code.keepU (HV.out.codeT HBs.out (by go_grown) (by omega)) hb))
  have HO := Lib.hid hab
  have hlen := ratL_len hab
  clear hc hb hab
  have gl1 := HD1.out.lt
  go_wp2_with fail
  refine (raText_is a b HO.out _).mono ?_
  rintro e w2 ⟨rfl, hb⟩
  have HD2 := Lib.hid (HD1.out.grow (nextX (by go_grown) hb))
  clear hb
  have gl2 := HD2.out.lt
  go_wp2_with fail
  refine (one_is w.heap.size _ _ 3 _ (HD2.out.cur.keep (by go_grown)) (HD2.out.code.keep (by go_grown)) (by omega) (by omega)).mono ?_
  rintro e w3 ⟨t, rfl, hc, hb⟩
  have HD3 := Lib.hid (HD2.out.step (by go_grown) hc hb)
  clear hc hb
  have gl3 := HD3.out.lt
  rcases t with _ | _
  · have hBw : Below w.heap.size w w3 := But.below hB1 HD3.out.but (by omega) (by have := hB1.size; omega)
    go_wp2_with fail
    go_ret
    exact ⟨_, rfl, by omega, by go_grown⟩
  · go_wp2_with fail
    refine (spoilt_is w.heap.size _ _ (ratL a b) [45, 47, 48, 49, 57, 32] _ (HD3.out.cur.keep (by go_grown)) (HD3.out.code.keep (by go_grown)) (by omega) (by omega) (by simp)).mono ?_
    rintro e w4 ⟨l, rfl, hl4, hc, hb⟩
    have HD4 := Lib.hid (HD3.out.step (by go_grown) hc hb)
    clear hc hb
    have hBw : Below w.heap.size w w4 := But.below hB1 HD4.out.but (by omega) (by have := hB1.size; omega)
    go_wp2_with fail
    go_ret
    exact ⟨_, rfl, by omega, by go_grown⟩

end Go.Proofs.YtmabngjmfjjogaaDoor
