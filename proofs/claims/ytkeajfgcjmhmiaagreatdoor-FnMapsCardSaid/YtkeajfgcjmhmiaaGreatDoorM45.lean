/- ParseRat of the program. -/
import Derived.Test.YtkeajfgcjmhmiaaGreatDoorM27
import Derived.Test.YtkeajfgcjmhmiaaGreatDoorM43
import Derived.Test.YtkeajfgcjmhmiaaGreatDoorM44
import Derived.Lib.ByteType
import Derived.WideLaws
namespace Go.Proofs.YtkeajfgcjmhmiaaGreatDoor
open Go.RowKit

theorem var_keep {w w' : World} {s : String} {a : Array Value} (h : w.var? Tryz.prog s = some a) (hb : Below w.heap.size w w') : w'.var? Tryz.prog s = some a := by
  unfold World.var? at *
  cases hg : Tryz.prog.globalNamed s with
  | none => simp [hg] at h
  | some g =>
    simp only [hg, Option.bind_some] at h ⊢
    have hlt : g < w.heap.size := by
      rcases Nat.lt_or_ge g w.heap.size with h' | h'
      · exact h'
      · rw [Array.getElem?_eq_none h'] at h; simp at h
    rw [hb.block g hlt]
    exact h
/-- The library's variables that reading a number wants. -/
def AtW (w : World) : Prop := (∃ t p, w.var? Tryz.prog "strconv.ErrSyntax" = some #[.iface t p]) ∧ (∃ t p, w.var? Tryz.prog "strconv.ErrRange" = some #[.iface t p])
theorem AtW.keep {w w' : World} (h : AtW w) (hb : Below w.heap.size w w') : AtW w' := by
  obtain ⟨⟨t, p, h1⟩, u, q, h2⟩ := h
  exact ⟨⟨t, p, var_keep h1 hb⟩, u, q, var_keep h2 hb⟩
/-- .. and a cut. -/
def CutW (w : World) : Prop := ∃ m, w.cell? ⟨0, 0, none⟩ = some (.int .i64 m)
theorem CutW.keep {w w' : World} (h : CutW w) (hb : Below w.heap.size w w') : CutW w' := by
  obtain ⟨m, h1⟩ := h
  exact ⟨m, cellB hb h1⟩

/-- What strconv.Atoi gives. -/
def AtE (s : List UInt8) (v : Int) (ev : Value) : Prop := (ev = .nilIface ∧ Lib.atoiAll s = .ok v) ∨ ((∃ t p, ev = .iface t p) ∧ ∀ u, Lib.atoiAll s ≠ .ok u)
theorem atoi_is (s : List UInt8) (hs : s.length ≤ 1048576) (w : World) (h : AtW w) :
    Calls Tryz.prog 94 #[str s] w fun e w' => ∃ v ev, e = .returned (.tuple #[.int .i64 v, ev]) ∧ -9223372036854775808 ≤ v ∧ v ≤ 9223372036854775807 ∧ AtE s v ev ∧ Below w.heap.size w w' := by
  obtain ⟨⟨t, p, h1⟩, u, q, h2⟩ := h
  have hz := str_size s
  rcases hp : Lib.atoiAll s with v | _ | _
  · refine (Tryz.strconv_Atoi_ok ⟨s.toArray⟩ (by omega) v hp w).mono ?_
    rintro e w' ⟨rfl, hb⟩
    have := Lib.atoiAll_bounds hp
    refine ⟨v, _, rfl, this.1, this.2, .inl ⟨rfl, hp⟩, ?_⟩
    rcases hb with rfl | ⟨t, rfl⟩
    · exact Below.refl _ _
    · exact Lib.bytesWorld_below _ _ _
  · refine (Tryz.strconv_Atoi_syntax_var ⟨s.toArray⟩ (by omega) hp (fun v hv => by cases hv) (fun hv => by cases hv) t p w h1).mono ?_
    rintro e w' ⟨N, rfl, -, -, hb⟩
    exact ⟨0, _, rfl, by omega, by omega, .inr ⟨⟨_, _, rfl⟩, fun u hu => by rw [hp] at hu; cases hu⟩, hb⟩
  · refine (Tryz.strconv_Atoi_range_var ⟨s.toArray⟩ (by omega) hp u q w h2).mono ?_
    rintro e w' ⟨N, rfl, -, -, hb⟩
    have := Lib.atoiSat_bounds s
    exact ⟨_, _, rfl, this.1, this.2, .inr ⟨⟨_, _, rfl⟩, fun u hu => by rw [hp] at hu; cases hu⟩, hb⟩
theorem cut_is (s c a b : List UInt8) (f : Bool) (hc : Lib.cut s c = (a, b, f)) (hs : s.length ≤ 1048576) (w : World) (h : CutW w) :
    Calls Tryz.prog 68 #[str s, str c] w fun e w' => e = .returned (.tuple #[str a, str b, .bool f]) ∧ Below w.heap.size w w' := by
  obtain ⟨m, h1⟩ := h
  have hz := str_size s
  refine (Tryz.strings_Cut ⟨s.toArray⟩ ⟨c.toArray⟩ m w (by omega) h1).mono ?_
  rintro e w' ⟨rfl, n, rfl⟩
  refine ⟨?_, below_drewN (Below.refl _ _) _⟩
  rw [str_data, str_data, hc]
  rfl
theorem cut_len {s c a b : List UInt8} {f : Bool} (h : Lib.cut s c = (a, b, f)) : a.length ≤ s.length ∧ b.length ≤ s.length := by
  unfold Lib.cut at h
  split at h
  · cases h; simp; omega
  · cases h; simp
theorem err_held (t : TypeId) (p : Value) (W : World) : (binOp .neq 80 (.iface t p) .nilIface).run Tryz.prog W = .ok (.bool true) W := run_neq_held_nil W _ t p (by kernel_rfl)
theorem err_nil (W : World) : (binOp .neq 80 .nilIface .nilIface).run Tryz.prog W = .ok (.bool false) W := run_neq_nil_nil W _ (by kernel_rfl)

/-- What a call that gives a fraction and a flag leaves. -/
def RetRB (w : World) (n d : Int) (t : Bool) (e : Ending) (w' : World) : Prop := e = .returned (.tuple #[.agg #[.int .i64 n, .int .i64 d], .bool t]) ∧ Below w.heap.size w w'
theorem neq_str (W : World) (x y : List UInt8) : (binOp .neq 9 (str x) (str y)).run Tryz.prog W = .ok (.bool (decide (x ≠ y))) W := by
  unfold str
  go_simp
  by_cases h : x = y
  · subst h; simp
  · simp [h]

set_option maxRecDepth 100000 in
set_option maxHeartbeats 3200000 in
theorem iParseRat_yes (n d : Int) (ho : okQ n d = true) (w : World) (hT : Tab w) (hA : AtW w) (hC : CutW w) :
    Calls Tryz.prog 69 #[str (ratL n d)] w (RetRB w n d true) := by
  have b := okQ_bd ho
  have hl := ratL_len ho
  have hcl := cut_len (cut_rat n d)
  have a1 := atoi_itoa n (by omega) (by omega)
  have a2 := atoi_itoa d (by omega) (by omega)
  have HO := Lib.hid ho
  have hq : ∀ W, (binOp .neq 9 (str (ratL n d)) (str (ratL n d))).run Tryz.prog W = .ok (.bool false) W := fun W => by rw [neq_str]; simp
  have hg : ∀ (W : World) (x y : Operand), (eqGuard .neq 9 x y (str (ratL n d)) (str (ratL n d))).run Tryz.prog W = .ok () W := fun W x y => by unfold str; go_simp
  clear ho
  have hn : ∀ W, (binOp .neq 80 .nilIface .nilIface).run Tryz.prog W = .ok (.bool false) W := err_nil
  have hh : ∀ (W : World) (t : TypeId) (p : Value), (binOp .neq 80 (.iface t p) .nilIface).run Tryz.prog W = .ok (.bool true) W := fun W t p => err_held t p W
  go_enter Tryz.func69, Tryz.ntmps69
  go_wp2_with fail
  refine (cut_is (ratL n d) [47] _ _ _ (cut_rat n d) (by omega) _ (hC.keep (by go_grown))).mono ?_
  rintro e w1 ⟨rfl, hb⟩
  have hB1 : Below w.heap.size w w1 := nextX (by go_grown) hb
  have s0 : Slot w1 w.heap.size 0 (.int .i64 0) := slotB hb ⟨by simp [go_sem], by simp [go_sem]⟩
  have s1 : Slot w1 w.heap.size 1 (.int .i64 0) := slotB hb ⟨by simp [go_sem], by simp [go_sem]⟩
  clear hb
  go_wp2_with fail
  refine (atoi_is _ (by omega) _ (hA.keep (by go_grown))).mono ?_
  rintro e w2 ⟨v1, ev1, rfl, i0, i1, he1, hb⟩
  have hB2 : Below w.heap.size w w2 := nextX hB1 (nextX (by go_grown) hb)
  replace s0 : Slot w2 w.heap.size 0 (.int .i64 0) := slotB (nextX (by go_grown) hb) s0
  replace s1 : Slot w2 w.heap.size 1 (.int .i64 0) := slotB (nextX (by go_grown) hb) s1
  clear hb
  go_wp2_with fail
  refine (atoi_is _ (by omega) _ (hA.keep (by go_grown))).mono ?_
  rintro e w3 ⟨v2, ev2, rfl, j0, j1, he2, hb⟩
  have hB3 : Below w.heap.size w w3 := nextX hB2 (nextX (by go_grown) hb)
  replace s0 : Slot w3 w.heap.size 0 (.int .i64 0) := slotB (nextX (by go_grown) hb) s0
  replace s1 : Slot w3 w.heap.size 1 (.int .i64 0) := slotB (nextX (by go_grown) hb) s1
  clear hb
  have z0 := lt_of_cell s0.1
  obtain ⟨rfl, rfl⟩ : ev1 = .nilIface ∧ v1 = n := by
    rcases he1 with ⟨rfl, he⟩ | ⟨-, he⟩
    · rw [a1] at he; cases he; exact ⟨rfl, rfl⟩
    · exact absurd a1 (he _)
  obtain ⟨rfl, rfl⟩ : ev2 = .nilIface ∧ v2 = d := by
    rcases he2 with ⟨rfl, he⟩ | ⟨-, he⟩
    · rw [a2] at he; cases he; exact ⟨rfl, rfl⟩
    · exact absurd a2 (he _)
  clear he1 he2
  go_wp2_with fail
  refine (isRat_any v1 v2 _).mono ?_
  rintro e w4 ⟨he, hb⟩
  rw [HO.out] at he
  subst he
  have hB4 : Below w.heap.size w w4 := nextX hB3 (nextX (by go_grown) hb)
  have c0 : w4.cell? ⟨w3.heap.size, 0, none⟩ = some (.int .i64 v1) := cellB hb (by simp [go_sem])
  have c1 : w4.cell? ⟨w3.heap.size, 1, none⟩ = some (.int .i64 v2) := cellB hb (by simp [go_sem])
  replace s0 : Slot w4 w.heap.size 0 (.int .i64 0) := slotB (nextX (by go_grown) hb) s0
  replace s1 : Slot w4 w.heap.size 1 (.int .i64 0) := slotB (nextX (by go_grown) hb) s1
  clear hb
  go_wp2_with fail
  refine (ratText_is v1 v2 HO.out _ (hT.keep (nextX hB4 (by go_grown)))).mono ?_
  rintro e w5 ⟨rfl, hb⟩
  have hB5 : Below w.heap.size w w5 := nextX hB4 (nextX (by go_grown) hb)
  have d0 : w5.cell? ⟨w3.heap.size, 0, none⟩ = some (.int .i64 v1) := cellB (nextX (by go_grown) hb) c0
  have d1 : w5.cell? ⟨w3.heap.size, 1, none⟩ = some (.int .i64 v2) := cellB (nextX (by go_grown) hb) c1
  replace s0 : Slot w5 w.heap.size 0 (.int .i64 0) := slotB (nextX (by go_grown) hb) s0
  replace s1 : Slot w5 w.heap.size 1 (.int .i64 0) := slotB (nextX (by go_grown) hb) s1
  clear hb c0 c1
  obtain ⟨q0, f0⟩ := s0
  obtain ⟨q1, f1⟩ := s1
  go_wp2_with fail
  refine bodyPost_ret (v := .tuple #[.agg #[.int .i64 v1, .int .i64 v2], .bool true]) (by simp [results, Tryz.results69, go_sem, q0, q1]) rfl ⟨rfl, ?_⟩
  go_grown
set_option maxRecDepth 100000 in
set_option maxHeartbeats 3200000 in
theorem iParseRat_no (s : List UInt8) (hs : s.length ≤ 1048576) (hno : ∀ a b, okQ a b = true → s ≠ ratL a b) (w : World) (hT : Tab w) (hA : AtW w) (hC : CutW w) :
    Calls Tryz.prog 69 #[str s] w (RetRB w 0 0 false) := by
  obtain ⟨a, b, f, hc⟩ : ∃ a b f, Lib.cut s [47] = (a, b, f) := ⟨_, _, _, rfl⟩
  have hcl := cut_len hc
  have HN := Lib.hid hno
  clear hno
  have hn : ∀ W, (binOp .neq 80 .nilIface .nilIface).run Tryz.prog W = .ok (.bool false) W := err_nil
  have hh : ∀ (W : World) (t : TypeId) (p : Value), (binOp .neq 80 (.iface t p) .nilIface).run Tryz.prog W = .ok (.bool true) W := fun W t p => err_held t p W
  go_enter Tryz.func69, Tryz.ntmps69
  go_wp2_with fail
  refine (cut_is s [47] _ _ _ hc hs _ (hC.keep (by go_grown))).mono ?_
  rintro e w1 ⟨rfl, hb⟩
  have hB1 : Below w.heap.size w w1 := nextX (by go_grown) hb
  have s0 : Slot w1 w.heap.size 0 (.int .i64 0) := slotB hb ⟨by simp [go_sem], by simp [go_sem]⟩
  have s1 : Slot w1 w.heap.size 1 (.int .i64 0) := slotB hb ⟨by simp [go_sem], by simp [go_sem]⟩
  clear hb
  go_wp2_with fail
  refine (atoi_is _ (by omega) _ (hA.keep (by go_grown))).mono ?_
  rintro e w2 ⟨v1, ev1, rfl, i0, i1, he1, hb⟩
  have hB2 : Below w.heap.size w w2 := nextX hB1 (nextX (by go_grown) hb)
  replace s0 : Slot w2 w.heap.size 0 (.int .i64 0) := slotB (nextX (by go_grown) hb) s0
  replace s1 : Slot w2 w.heap.size 1 (.int .i64 0) := slotB (nextX (by go_grown) hb) s1
  clear hb
  go_wp2_with fail
  refine (atoi_is _ (by omega) _ (hA.keep (by go_grown))).mono ?_
  rintro e w3 ⟨v2, ev2, rfl, j0, j1, he2, hb⟩
  have hB3 : Below w.heap.size w w3 := nextX hB2 (nextX (by go_grown) hb)
  replace s0 : Slot w3 w.heap.size 0 (.int .i64 0) := slotB (nextX (by go_grown) hb) s0
  replace s1 : Slot w3 w.heap.size 1 (.int .i64 0) := slotB (nextX (by go_grown) hb) s1
  clear hb
  have z0 := lt_of_cell s0.1
  cases f with
  | false =>
    obtain ⟨q0, f0⟩ := s0
    obtain ⟨q1, f1⟩ := s1
    go_wp2_with fail
    refine bodyPost_ret (v := .tuple #[.agg #[.int .i64 0, .int .i64 0], .bool false]) (by simp [results, Tryz.results69, go_sem, q0, q1, z0]) rfl ⟨rfl, ?_⟩
    go_grown
  | true =>
    rcases he1 with ⟨rfl, -⟩ | ⟨⟨t1, p1, rfl⟩, -⟩
    rotate_left
    · obtain ⟨q0, f0⟩ := s0
      obtain ⟨q1, f1⟩ := s1
      go_wp2_with fail
      refine bodyPost_ret (v := .tuple #[.agg #[.int .i64 0, .int .i64 0], .bool false]) (by simp [results, Tryz.results69, go_sem, q0, q1, z0]) rfl ⟨rfl, ?_⟩
      go_grown
    rcases he2 with ⟨rfl, -⟩ | ⟨⟨t2, p2, rfl⟩, -⟩
    rotate_left
    · obtain ⟨q0, f0⟩ := s0
      obtain ⟨q1, f1⟩ := s1
      go_wp2_with fail
      refine bodyPost_ret (v := .tuple #[.agg #[.int .i64 0, .int .i64 0], .bool false]) (by simp [results, Tryz.results69, go_sem, q0, q1, z0]) rfl ⟨rfl, ?_⟩
      go_grown
    rcases ho : okQ v1 v2 with _ | _
    · have HO := Lib.hid ho
      clear ho
      go_wp2_with fail
      refine (isRat_any v1 v2 _).mono ?_
      rintro e w4 ⟨he, hb⟩
      rw [HO.out] at he
      subst he
      have hB4 : Below w.heap.size w w4 := nextX hB3 (nextX (by go_grown) hb)
      have c0 : w4.cell? ⟨w3.heap.size, 0, none⟩ = some (.int .i64 v1) := cellB hb (by simp [go_sem])
      have c1 : w4.cell? ⟨w3.heap.size, 1, none⟩ = some (.int .i64 v2) := cellB hb (by simp [go_sem])
      replace s0 : Slot w4 w.heap.size 0 (.int .i64 0) := slotB (nextX (by go_grown) hb) s0
      replace s1 : Slot w4 w.heap.size 1 (.int .i64 0) := slotB (nextX (by go_grown) hb) s1
      clear hb
      obtain ⟨q0, f0⟩ := s0
      obtain ⟨q1, f1⟩ := s1
      go_wp2_with fail
      refine bodyPost_ret (v := .tuple #[.agg #[.int .i64 0, .int .i64 0], .bool false]) (by simp [results, Tryz.results69, go_sem, q0, q1]) rfl ⟨rfl, ?_⟩
      go_grown
    · have HO := Lib.hid ho
      clear ho
      have hne := HN.out v1 v2 HO.out
      have hq : ∀ W, (binOp .neq 9 (str (ratL v1 v2)) (str s)).run Tryz.prog W = .ok (.bool true) W := fun W => by rw [neq_str]; simp; exact fun h => hne h.symm
      have hg : ∀ (W : World) (x y : Operand), (eqGuard .neq 9 x y (str (ratL v1 v2)) (str s)).run Tryz.prog W = .ok () W := fun W x y => by unfold str; go_simp
      clear hne
      go_wp2_with fail
      refine (isRat_any v1 v2 _).mono ?_
      rintro e w4 ⟨he, hb⟩
      rw [HO.out] at he
      subst he
      have hB4 : Below w.heap.size w w4 := nextX hB3 (nextX (by go_grown) hb)
      have c0 : w4.cell? ⟨w3.heap.size, 0, none⟩ = some (.int .i64 v1) := cellB hb (by simp [go_sem])
      have c1 : w4.cell? ⟨w3.heap.size, 1, none⟩ = some (.int .i64 v2) := cellB hb (by simp [go_sem])
      replace s0 : Slot w4 w.heap.size 0 (.int .i64 0) := slotB (nextX (by go_grown) hb) s0
      replace s1 : Slot w4 w.heap.size 1 (.int .i64 0) := slotB (nextX (by go_grown) hb) s1
      clear hb
      go_wp2_with fail
      refine (ratText_is v1 v2 HO.out _ (hT.keep (nextX hB4 (by go_grown)))).mono ?_
      rintro e w5 ⟨rfl, hb⟩
      have hB5 : Below w.heap.size w w5 := nextX hB4 (nextX (by go_grown) hb)
      have d0 : w5.cell? ⟨w3.heap.size, 0, none⟩ = some (.int .i64 v1) := cellB (nextX (by go_grown) hb) c0
      have d1 : w5.cell? ⟨w3.heap.size, 1, none⟩ = some (.int .i64 v2) := cellB (nextX (by go_grown) hb) c1
      replace s0 : Slot w5 w.heap.size 0 (.int .i64 0) := slotB (nextX (by go_grown) hb) s0
      replace s1 : Slot w5 w.heap.size 1 (.int .i64 0) := slotB (nextX (by go_grown) hb) s1
      clear hb c0 c1
      obtain ⟨q0, f0⟩ := s0
      obtain ⟨q1, f1⟩ := s1
      go_wp2_with fail
      refine bodyPost_ret (v := .tuple #[.agg #[.int .i64 0, .int .i64 0], .bool false]) (by simp [results, Tryz.results69, go_sem, q0, q1]) rfl ⟨rfl, ?_⟩
      go_grown
theorem iParseRat_is (s : List UInt8) (n d : Int) (t : Bool) (hl : psQ s = ((n, d), t)) (hs : s.length ≤ 1048576) (w : World) (hT : Tab w) (hA : AtW w) (hC : CutW w) :
    Calls Tryz.prog 69 #[str s] w (RetRB w n d t) := by
  rcases psQ_cases hl with ⟨rfl, ho, rfl⟩ | ⟨rfl, rfl, rfl, hno⟩
  · exact iParseRat_yes n d ho w hT hA hC
  · exact iParseRat_no s hs hno w hT hA hC

end Go.Proofs.YtkeajfgcjmhmiaaGreatDoor
