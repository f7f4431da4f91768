/- The cursor of drawn laws: next, pick, one, among. -/
import Derived.Test.YtkeajfgcjmhmiaaCalcs
import Derived.Lib.EndianBits
namespace Go.Proofs.Ytkeajfgcjmhmiaa
open Go.RowKit

/-- A slice that reads as integers of one kind. -/
def RdN (k : IntKind) (w : World) (v : Value) (xs : List Int) : Prop := ∃ A c, v = .slice A xs.length c ∧ xs.length ≤ c ∧ c ≤ maxLen ∧ (xs ≠ [] → ∃ g o, A = some ⟨g, o, none⟩ ∧ g < w.heap.size ∧ ∀ (i : Nat) (x : Int), xs[i]? = some x → w.cell? ⟨g, o + i, none⟩ = some (.int k x))
theorem RdN.keepU {k : IntKind} {g : Nat} {w w' : World} {v : Value} {xs : List Int} (h : RdN k w v xs) (hb : But g w w') (hn : xs ≠ [] → ∀ b o n c, v = .slice (some ⟨b, o, none⟩) n c → b ≠ g) : RdN k w' v xs := by
  obtain ⟨A, c, rfl, h1, h2, h3⟩ := h
  refine ⟨A, c, rfl, h1, h2, fun hne => ?_⟩
  obtain ⟨b, o, rfl, hg, hc⟩ := h3 hne
  have hbg := hn hne _ _ _ _ rfl
  exact ⟨b, o, rfl, Nat.lt_of_lt_of_le hg hb.size, fun i x hx => cellU hb hbg (hc i x hx)⟩
theorem RdN.keep {k : IntKind} {w w' : World} {v : Value} {xs : List Int} (h : RdN k w v xs) (hb : Below w.heap.size w w') : RdN k w' v xs := by
  obtain ⟨A, c, rfl, h1, h2, h3⟩ := h
  refine ⟨A, c, rfl, h1, h2, fun hne => ?_⟩
  obtain ⟨b, o, rfl, hg, hc⟩ := h3 hne
  exact ⟨b, o, rfl, Nat.lt_of_lt_of_le hg hb.size, fun i x hx => cellB hb (hc i x hx)⟩
/-- A cursor at block g: it has read n bytes at most. -/
structure Cur (g : Nat) (v : Value) (n : Nat) (w : World) : Prop where
  code : Slot w g 0 v
  pos : ∃ a : Nat, a ≤ n ∧ Slot w g 1 (.int .i64 a)
  seed : ∃ s : Int, 0 ≤ s ∧ s ≤ 18446744073709551615 ∧ Slot w g 2 (.int .u64 s)
theorem Cur.keep {g n : Nat} {v : Value} {w w' : World} (h : Cur g v n w) (hb : Below w.heap.size w w') : Cur g v n w' := by
  obtain ⟨h1, ⟨a, ha, h2⟩, s, s0, s1, h3⟩ := h
  exact ⟨slotB hb h1, ⟨a, ha, slotB hb h2⟩, s, s0, s1, slotB hb h3⟩
theorem Cur.more {g n m : Nat} {v : Value} {w : World} (h : Cur g v n w) (hm : n ≤ m) : Cur g v m w := by
  obtain ⟨h1, ⟨a, ha, h2⟩, h3⟩ := h
  exact ⟨h1, ⟨a, Nat.le_trans ha hm, h2⟩, h3⟩
/-- The bytes that a cursor reads: they do not lie in its own block. -/
def Code (g : Nat) (w : World) (v : Value) : Prop := ∃ bs : List Int, RdN .u8 w v bs ∧ (∀ x ∈ bs, 0 ≤ x ∧ x ≤ 255) ∧ (bs ≠ [] → ∀ b o n c, v = .slice (some ⟨b, o, none⟩) n c → b ≠ g)
theorem Code.keep {g : Nat} {w w' : World} {v : Value} (h : Code g w v) (hb : Below w.heap.size w w') : Code g w' v := by
  obtain ⟨bs, h1, h2, h3⟩ := h
  exact ⟨bs, h1.keep hb, h2, h3⟩
theorem Code.keepU {g : Nat} {w w' : World} {v : Value} (h : Code g w v) (hb : But g w w') : Code g w' v := by
  obtain ⟨bs, h1, h2, h3⟩ := h
  exact ⟨bs, h1.keepU hb h3, h2, h3⟩
theorem u64_bd (n : Int) : 0 ≤ IntKind.u64.wrap n ∧ IntKind.u64.wrap n ≤ 18446744073709551615 := by
  have := wf_wrap .u64 n
  simp [Lit.wf, IntKind.min, IntKind.max, IntKind.signed, IntKind.bits] at this
  omega

theorem low8 (x : Int) (h0 : 0 ≤ x) (h1 : x < 18446744073709551616) : 0 ≤ wrap64 (bits BinOp.and IntKind.u64 x 255) ∧ wrap64 (bits BinOp.and IntKind.u64 x 255) ≤ 255 := by
  have h := bits_mask .u64 64 (by decide) wraps_u64 8 (by decide) x h0 h1
  have h2 : bits BinOp.and IntKind.u64 x 255 = x % 256 := by simpa using h
  rw [h2, IntWalk.wrap64_in _ (by omega)]
  omega

/-- What a draw of the cursor leaves: a number that P holds of. -/
def Drew (g : Nat) (v : Value) (n : Nat) (P : Int → Prop) (w : World) (e : Ending) (w' : World) : Prop := ∃ x : Int, e = .returned (.int .i64 x) ∧ P x ∧ Cur g v n w' ∧ But g w w'

set_option maxHeartbeats 3200000 in
theorem next_is (g : Nat) (v : Value) (n : Nat) (w : World) (hc : Cur g v n w) (hv : Code g w v) (hn : n ≤ 1000000000) :
    Calls Try.prog 78 #[.pointer (some ⟨g, 0, none⟩)] w (Drew g v (n + 1) (fun x => 0 ≤ x ∧ x ≤ 255) w) := by
  obtain ⟨⟨c0, f0⟩, ⟨a, ha, c1, f1⟩, s, s0, s1, c2, f2⟩ := hc
  obtain ⟨bs, ⟨A, c, rfl, hl, hm, hcell⟩, hbs, hne⟩ := hv
  unfold maxLen at hm
  have hg := lt_of_cell c0
  have b0 : (0 : Int) ≤ (a : Int) := by omega
  have v1 : IntKind.i64.wrap ((a : Int) + 1) = (a : Int) + 1 := IntWalk.i64_in _ (by omega)
  by_cases hlt : a < bs.length
  · have hx := List.getElem?_eq_getElem hlt
    generalize bs[a] = x at *
    obtain ⟨b, o, rfl, hgb, hcc⟩ := hcell (by rintro rfl; simp at hlt)
    have hbg := hne (by rintro rfl; simp at hlt) _ _ _ _ rfl
    have cx := hcc a x hx
    have hx2 := hbs x (List.mem_of_getElem? hx)
    have b1 : (a : Int) < (bs.length : Int) := by omega
    have b2 : (a : Int) + 1 ≤ (bs.length : Int) := by omega
    have v2 : IntKind.i64.wrap x = x := IntWalk.i64_in _ (by omega)
    clear hcell hcc hbs hx hne
    go_enter Try.func78, Try.ntmps78
    go_wp2_with fail
    go_region
    go_wp2_with fail
    go_region
    go_wp2_with fail
    go_region
    go_wp2_with fail
    go_ret
    exact ⟨x, rfl, hx2, ⟨slotS (slotS ⟨c0, f0⟩ (by simp)) (by simp), ⟨a + 1, by omega, slotS (slotN ⟨c1, f1⟩) (by simp)⟩, _, (u64_bd _).1, (u64_bd _).2, slotN (slotS ⟨c2, f2⟩ (by simp))⟩, (((But.refl g w).setCell _).setCell _).next ((Below.refl _ _).drew.drew.drew) (Nat.le_refl _)⟩
  · have b1 : ¬ (a : Int) < (bs.length : Int) := by omega
    have b1' : decide ((a : Int) < (bs.length : Int)) = false := by simpa using b1
    have b2 : ¬ (a : Int) + 1 ≤ (bs.length : Int) := by omega
    have b2' : decide ((a : Int) + 1 ≤ (bs.length : Int)) = false := by simpa using b2
    have b3 : (bs.length : Int) ≤ (a : Int) := by omega
    have b4 : (bs.length : Int) < (a : Int) + 1 := by omega
    clear hcell hbs hne
    go_enter Try.func78, Try.ntmps78
    go_wp2_with fail
    go_region
    go_wp2_with fail
    go_region
    go_wp2_with fail
    go_ret
    have hsd := u64_bd (IntKind.u64.wrap (IntKind.u64.wrap (s * 6364136223846793005)) + 1442695040888963407)
    have hx8 := low8 (IntKind.u64.wrap (IntKind.u64.wrap (IntKind.u64.wrap (s * 6364136223846793005)) + 1442695040888963407) / 1099511627776) (by omega) (by omega)
    exact ⟨_, rfl, hx8, ⟨slotS (slotS ⟨c0, f0⟩ (by simp)) (by simp), ⟨a + 1, by omega, slotS (slotN ⟨c1, f1⟩) (by simp)⟩, _, hsd.1, hsd.2, slotN (slotS ⟨c2, f2⟩ (by simp))⟩, (((But.refl g w).setCell _).setCell _).next ((Below.refl _ _).drew.drew) (Nat.le_refl _)⟩

set_option maxHeartbeats 1600000 in
theorem pick_is (g : Nat) (v : Value) (n : Nat) (N : Int) (w : World) (hc : Cur g v n w) (hv : Code g w v) (hn : n + 2 ≤ 1000000000) (hN : 1 ≤ N ∧ N ≤ 1000000000) :
    Calls Try.prog 55 #[.pointer (some ⟨g, 0, none⟩), .int .i64 N] w (Drew g v (n + 2) (fun x => 0 ≤ x ∧ x < N) w) := by
  have HC := Lib.hid hc
  have HV := Lib.hid hv
  clear hc hv
  by_cases h1 : N = 1
  · subst h1
    go_enter Try.func55, Try.ntmps55
    go_wp2_with fail
    go_ret
    exact ⟨0, rfl, ⟨by omega, by omega⟩, HC.out.more (by omega), But.refl _ _⟩
  · have b1 : ¬ N ≤ 1 := by omega
    have b1' : decide (N ≤ 1) = false := by simpa using b1
    have b2 : 1 < N := by omega
    have hN0 : N ≠ 0 := by omega
    by_cases h2 : 200 < N
    · go_enter Try.func55, Try.ntmps55
      go_wp2_with fail
      refine (next_is g v n _ HC.out HV.out (by omega)).mono ?_
      rintro e w1 ⟨x, rfl, hx, hc1, hb1⟩
      have HC1 := Lib.hid hc1
      have HV1 := Lib.hid (HV.out.keepU hb1)
      have v1 : IntKind.i64.wrap (x * 256) = x * 256 := IntWalk.i64_in _ (by omega)
      clear hc1
      go_wp2_with fail
      refine (next_is g v (n + 1) _ HC1.out HV1.out (by omega)).mono ?_
      rintro e w2 ⟨y, rfl, hy, hc2, hb2⟩
      have HC2 := Lib.hid hc2
      have v2 : IntKind.i64.wrap (x * 256 + y) = x * 256 + y := IntWalk.i64_in _ (by omega)
      have v3 : (x * 256 + y).tmod N = (x * 256 + y) % N := Int.tmod_eq_emod_of_nonneg (by omega)
      have v4 : 0 ≤ (x * 256 + y) % N := Int.emod_nonneg _ hN0
      have v5 : (x * 256 + y) % N < N := Int.emod_lt_of_pos _ (by omega)
      have v6 : IntKind.i64.wrap ((x * 256 + y) % N) = (x * 256 + y) % N := IntWalk.i64_in _ (by omega)
      have v7 : IntKind.i64.wrap ((x * 256 + y).tmod N) = (x * 256 + y) % N := by rw [v3, v6]
      clear hc2
      go_wp2_with fail
      go_ret
      exact ⟨_, rfl, ⟨v4, v5⟩, HC2.out, hb1.trans hb2⟩
    · have b3 : N ≤ 200 := by omega
      have b3' : decide (200 < N) = false := by simpa using b3
      go_enter Try.func55, Try.ntmps55
      go_wp2_with fail
      refine (next_is g v n _ HC.out HV.out (by omega)).mono ?_
      rintro e w1 ⟨x, rfl, hx, hc1, hb1⟩
      have HC1 := Lib.hid (hc1.more (show n + 1 ≤ n + 2 by omega))
      have v3 : x.tmod N = x % N := Int.tmod_eq_emod_of_nonneg hx.1
      have v4 : 0 ≤ x % N := Int.emod_nonneg _ hN0
      have v5 : x % N < N := Int.emod_lt_of_pos _ (by omega)
      have v6 : IntKind.i64.wrap (x % N) = x % N := IntWalk.i64_in _ (by omega)
      have v7 : IntKind.i64.wrap (x.tmod N) = x % N := by rw [v3, v6]
      clear hc1
      go_wp2_with fail
      go_ret
      exact ⟨_, rfl, ⟨v4, v5⟩, HC1.out, hb1⟩

set_option maxHeartbeats 800000 in
theorem one_is (g : Nat) (v : Value) (n : Nat) (N : Int) (w : World) (hc : Cur g v n w) (hv : Code g w v) (hn : n + 2 ≤ 1000000000) (hN : 1 ≤ N ∧ N ≤ 1000000000) :
    Calls Try.prog 30 #[.pointer (some ⟨g, 0, none⟩), .int .i64 N] w (fun e w' => ∃ b : Bool, e = .returned (.bool b) ∧ Cur g v (n + 2) w' ∧ But g w w') := by
  have HC := Lib.hid hc
  have HV := Lib.hid hv
  clear hc hv
  go_enter Try.func30, Try.ntmps30
  go_wp2_with fail
  refine (pick_is g v n N _ HC.out HV.out hn hN).mono ?_
  rintro e w1 ⟨x, rfl, hx, hc1, hb1⟩
  go_wp2_with fail
  go_ret
  exact ⟨_, rfl, hc1, hb1⟩

set_option maxHeartbeats 800000 in
theorem among_is (g : Nat) (v u : Value) (xs : List Int) (n : Nat) (w : World) (hc : Cur g v n w) (hv : Code g w v) (hn : n + 2 ≤ 1000000000) (hu : RdN .i64 w u xs) (hd : ∀ b o n c, u = .slice (some ⟨b, o, none⟩) n c → b ≠ g) (hx : 1 ≤ xs.length ∧ xs.length ≤ 1000000) :
    Calls Try.prog 59 #[.pointer (some ⟨g, 0, none⟩), u] w (Drew g v (n + 2) (fun x => x ∈ xs) w) := by
  have HC := Lib.hid hc
  have HV := Lib.hid hv
  obtain ⟨A, c, rfl, hl, hm, hcell⟩ := hu
  unfold maxLen at hm
  obtain ⟨b, o, rfl, hb, hcc⟩ := hcell (by rintro rfl; simp at hx)
  have hbg := hd _ _ _ _ rfl
  have HCC := Lib.hid hcc
  clear hc hv hcell hcc hd
  go_enter Try.func59, Try.ntmps59
  go_wp2_with fail
  refine (pick_is g v n xs.length _ HC.out HV.out hn ⟨by omega, by omega⟩).mono ?_
  rintro e w1 ⟨x, rfl, hx1, hc1, hb1⟩
  obtain ⟨j, rfl⟩ : ∃ j : Nat, x = j := ⟨x.toNat, by omega⟩
  have hj : j < xs.length := by omega
  have hxj := List.getElem?_eq_getElem hj
  generalize xs[j] = y at *
  have cy := cellU hb1 hbg (HCC.out j y hxj)
  have HC1 := Lib.hid hc1
  have b0 : (0 : Int) ≤ (j : Int) := by omega
  have b1 : (j : Int) < (xs.length : Int) := by omega
  clear hc1
  go_wp2_with fail
  go_ret
  exact ⟨_, rfl, List.mem_of_getElem? hxj, HC1.out, hb1⟩

end Go.Proofs.Ytkeajfgcjmhmiaa
