/- raParse of the reference. -/
import Derived.Test.YtkeajfgcjmhmiaaGreatDoorM28
import Derived.Test.YtkeajfgcjmhmiaaGreatDoorM45
namespace Go.Proofs.YtkeajfgcjmhmiaaGreatDoor
open Go.RowKit

theorem OwS.two {base : Nat} {w : World} {v : Value} {a b : List UInt8} (h : OwS base w v [a, b]) : ∃ g c, v = .slice (some ⟨g, 0, none⟩) 2 c ∧ base ≤ g ∧ Slot w g 0 (str a) ∧ Slot w g 1 (str b) := by
  have h0 := h
  rcases h.2 with ⟨_, hn⟩ | ⟨g, cap, cur, rfl, hb, hh, hl, hm, hs, hx⟩
  · simp at hn
  · have hc := fun j hj => World.ownsRow.cellAt h0 j hj
    exact ⟨g, cap, rfl, hb, ⟨(hc 0 (by simp)).trans rfl, by simp [World.frozen?, hh]⟩, ⟨(hc 1 (by simp)).trans rfl, by simp [World.frozen?, hh]⟩⟩

/-- What raParse has behind the sign. -/
def CutP (w : World) (n0 g : Nat) (sg : Int) (a b : List UInt8) (s5 : Value) (wx : World) : Prop :=
  s5 = .int .i64 sg ∧ Slot wx g 0 (str a) ∧ Slot wx g 1 (str b) ∧ Slot wx n0 0 (.int .i64 0) ∧ Slot wx n0 1 (.int .i64 0) ∧ Below w.heap.size w wx
theorem eq_str (W : World) (x y : List UInt8) : (binOp .neq 9 (str x) (str y)).run Tryz.prog W = .ok (.bool (!(x == y))) W := by
  unfold str
  go_simp
set_option maxRecDepth 100000 in
set_option maxHeartbeats 3200000 in
theorem raParse_core (s a b a' : List UInt8) (sg v1 v2 : Int) (x : UInt8) (hsp : spL 47 s = [a, b]) (hs : s.length ≤ 22) (hx : a[0]? = some x) (hsg : (x = 45 ∧ sg = -1 ∧ a' = a.drop 1) ∨ (x ≠ 45 ∧ sg = 1 ∧ a' = a)) (hv1 : rdL a' = v1) (hv2 : rdL b = v2)
    (n d : Int) (t : Bool) (hr : (okQ (sg * v1) v2 = true ∧ ratL (sg * v1) v2 = s ∧ sg * v1 = n ∧ v2 = d ∧ t = true) ∨ (¬ (okQ (sg * v1) v2 = true ∧ ratL (sg * v1) v2 = s) ∧ n = 0 ∧ d = 0 ∧ t = false)) (w : World) :
    Calls Tryz.prog 71 #[str s] w (RetRB w n d t) := by
  have fl : ∀ (l : List UInt8) W, (Builtin.len_ #[9] 3 #[str l]).run Tryz.prog W = .ok (.int .i64 l.length) W := fun l W => str_len _ _ l W (by kernel_rfl)
  have fa : ∀ W, (Instr.index 9 (str a) (.int .i64 0)).run Tryz.prog W = .ok (.int .u8 x.toNat) W := fun W => str_at a 0 x W hx
  have ha : 0 < a.length := (List.getElem?_eq_some_iff.1 hx).1
  have HS := Lib.hid hsp
  have H1 := Lib.hid (fun W => raRead_is a' v1 hv1 W)
  have H2 := Lib.hid (fun W => raRead_is b v2 hv2 W)
  have d1 := rdL_bd a'
  have d2 := rdL_bd b
  rw [hv1] at d1
  rw [hv2] at d2
  obtain ⟨n0, hn0⟩ : ∃ n0, sg * v1 = n0 := ⟨_, rfl⟩
  have dn : -10000000000 ≤ n0 ∧ n0 ≤ 10000000000 := by
    rw [← hn0]
    rcases hsg with ⟨-, rfl, -⟩ | ⟨-, rfl, -⟩ <;> omega
  have vW : IntKind.i64.wrap (sg * v1) = n0 := by rw [hn0]; exact IntWalk.i64_in _ (by omega)
  rw [hn0] at hr
  have HR := Lib.hid hr
  clear hn0
  have bs : decide ((22 : Int) < s.length) = false := by simp; omega
  have ba : ((a.length : Int) == 0) = false := beq_eq_false_iff_ne.2 (by omega)
  have HC := Lib.hid (fun W => l1Split_is s 47 (by omega) W)
  clear hsp hr hv1 hv2
  go_enter Tryz.func71, Tryz.ntmps71
  go_wp2_with fail
  refine (HC.out _).mono ?_
  rintro e w1 ⟨r, rfl, how, hb⟩
  rw [HS.out] at how
  obtain ⟨g, c, rfl, hg, s0, s1⟩ := how.two
  have hB1 : Below w.heap.size w w1 := nextX (by go_grown) hb
  have r0 : Slot w1 w.heap.size 0 (.int .i64 0) := slotB hb ⟨by simp [go_sem], by simp [go_sem]⟩
  have r1 : Slot w1 w.heap.size 1 (.int .i64 0) := slotB hb ⟨by simp [go_sem], by simp [go_sem]⟩
  have z0 := lt_of_cell r0.1
  have zg := lt_of_cell s0.1
  have hg2 : w.heap.size < g := by simp at hg; omega
  clear hb how hg
  obtain ⟨p0, f0⟩ := s0
  obtain ⟨p1, f1⟩ := s1
  go_upto_if 29 with fail
  go_cut [5] (fun s5 wx => CutP w w.heap.size g sg a' b s5 wx)
  case first =>
    rcases hsg with ⟨rfl, rfl, he⟩ | ⟨hne, rfl, rfl⟩
    · have fr : ∀ W, (Instr.slice 9 (str a) (some (.int .i64 1)) none none).run Tryz.prog W = .ok (.string ⟨a'.toArray⟩) W := fun W => by rw [he]; exact str_rest a 1 W (by omega)
      clear he
      go_wp2_with fail
      go_meet
      exact ⟨rfl, slotN ⟨p0, f0⟩, slotS ⟨p1, f1⟩ (by simp), slotS r0 (by simp <;> omega), slotS r1 (by simp <;> omega), by go_grown⟩
    · have bx : ((x.toNat : Int) == 45) = false := by
        simp
        exact fun e => hne (UInt8.toNat_inj.1 (by simpa using (show x.toNat = 45 by omega)))
      go_wp2_with fail
      go_meet
      exact ⟨rfl, ⟨p0, f0⟩, ⟨p1, f1⟩, r0, r1, hB1⟩
  case rest =>
    clear r0 r1 hB1 p0 p1 f0 f1
    obtain ⟨rfl, s0, s1, r0, r1, hB⟩ := hcut
    have z0 := lt_of_cell r0.1
    have zg := lt_of_cell s0.1
    clear fa hsg hx ha
    go_upto_region 8 with fail
    go_cut [6] (fun s6 wx => VarQ wx s6 (w.heap.size + 1) n0 v2 ∧ Slot wx w.heap.size 0 (.int .i64 0) ∧ Slot wx w.heap.size 1 (.int .i64 0) ∧ Below w.heap.size w wx)
    case first =>
      go_name_world W hW
      have g0 : Below wc.heap.size wc W := by rw [← hW]; go_grown
      have kL : Facts [(g, 0, str a'), (g, 1, str b)] W := ⟨cellB g0 s0.1, cellB g0 s1.1⟩
      replace r0 := slotB g0 r0
      replace r1 := slotB g0 r1
      replace hB := nextW hB g0
      have zR := lt_of_cell r0.1
      clear hW s0 s1
      go_region_held3 (fun w' => w'.cell? ⟨g, 0, none⟩ = some (str a') ∧ w'.cell? ⟨g, 1, none⟩ = some (str b))
        ((exact Facts.keep kL (by go_grown)))
        ((first
          | (go_at_call_of 95 a'; (with_reducible refine (H1.out _).mono ?_); rintro e w2 ⟨rfl, hb2⟩; have hX2 : Below W.heap.size W w2 := nextX (by go_grown) hb2; have z2 := hX2.size; (first | (with_reducible have n2 := fresh2 hb2) | (with_reducible have n2 := fresh2D hb2) | (with_reducible have n2 := Fresh2.keep n3 hb2) | skip); (first | (have n2c := n2; obtain ⟨⟨p0, f0⟩, p1, f1⟩ := n2c) | skip))
          | (go_at_call_of 95 b; (with_reducible refine (H2.out _).mono ?_); rintro e w3 ⟨rfl, hb3⟩; have hX3 : Below W.heap.size W w3 := nextX (by go_grown) hb3; have z3 := hX3.size; (first | (with_reducible have n3 := fresh2 hb3) | (with_reducible have n3 := fresh2D hb3) | (with_reducible have n3 := Fresh2.keep n2 hb3) | skip); (first | (have n3c := n3; obtain ⟨⟨p0, f0⟩, p1, f1⟩ := n3c) | skip))))
      all_goals
        go_wp2_with fail
        go_meet
        first
          | exact ⟨VarQ.made (by omega) _ _ _, slotB (by go_grown) r0, slotB (by go_grown) r1, nextW hB (by go_grown)⟩
          | exact ⟨VarQ.stored ⟨p0, f0⟩ ⟨p1, f1⟩ (by omega) _ _, slotB (by go_grown) r0, slotB (by go_grown) r1, nextW hB (by go_grown)⟩
    case rest =>
      clear hB r0 r1 s0 s1 z0 zg
      obtain ⟨⟨v, rfl, hv, m0, m1⟩, r0, r1, hB⟩ := hcut
      have z0 := lt_of_cell r0.1
      have e0 := m0.1
      have e1 := m1.1
      clear m0 m1
      rcases ho : okQ n0 v2 with _ | _
      · obtain ⟨rfl, rfl, rfl⟩ : n = 0 ∧ d = 0 ∧ t = false := by
          rcases HR.out with ⟨h, -⟩ | ⟨-, h⟩
          · rw [ho] at h; cases h
          · exact h
        have HO := Lib.hid ho
        clear ho
        go_wp2_with fail
        refine (raGood_any n0 v2 _).mono ?_
        rintro e w4 ⟨he, hb⟩
        rw [HO.out] at he
        subst he
        replace hB := nextX hB (nextX (by go_grown) hb)
        replace r0 := slotB (nextX (by go_grown) hb) r0
        replace r1 := slotB (nextX (by go_grown) hb) r1
        clear hb e0 e1
        obtain ⟨q0, k0⟩ := r0
        obtain ⟨q1, k1⟩ := r1
        go_wp2_with fail
        refine bodyPost_ret (v := .tuple #[.agg #[.int .i64 0, .int .i64 0], .bool false]) (by simp [results, Tryz.results71, go_sem, q0, q1]) rfl ⟨rfl, ?_⟩
        go_grown
      · have HO := Lib.hid ho
        clear ho
        have hq : ∀ W, (binOp .neq 9 (str (ratL n0 v2)) (str s)).run Tryz.prog W = .ok (.bool (!(ratL n0 v2 == s))) W := fun W => eq_str W _ _
        have hg : ∀ (W : World) (x y : Operand), (eqGuard .neq 9 x y (str (ratL n0 v2)) (str s)).run Tryz.prog W = .ok () W := fun W x y => by unfold str; go_simp
        go_wp2_with fail
        refine (raGood_any n0 v2 _).mono ?_
        rintro e w4 ⟨he, hb⟩
        rw [HO.out] at he
        subst he
        replace hB := nextX hB (nextX (by go_grown) hb)
        replace e0 := cellB (nextX (by go_grown) hb) e0
        replace e1 := cellB (nextX (by go_grown) hb) e1
        replace r0 := slotB (nextX (by go_grown) hb) r0
        replace r1 := slotB (nextX (by go_grown) hb) r1
        clear hb
        go_wp2_with fail
        refine (raText_is n0 v2 HO.out _).mono ?_
        rintro e w5 ⟨rfl, hb⟩
        replace hB := nextX hB (nextX (by go_grown) hb)
        replace e0 := cellB (nextX (by go_grown) hb) e0
        replace e1 := cellB (nextX (by go_grown) hb) e1
        replace r0 := slotB (nextX (by go_grown) hb) r0
        replace r1 := slotB (nextX (by go_grown) hb) r1
        clear hb
        by_cases hs2 : ratL n0 v2 = s
        · obtain ⟨rfl, rfl, rfl⟩ : n0 = n ∧ v2 = d ∧ t = true := by
            rcases HR.out with ⟨-, -, h⟩ | ⟨h, -⟩
            · exact h
            · exact absurd ⟨HO.out, hs2⟩ h
          have hqt : (ratL n0 v2 == s) = true := by simpa using hs2
          clear hs2
          obtain ⟨q0, k0⟩ := r0
          obtain ⟨q1, k1⟩ := r1
          go_wp2_with fail
          refine bodyPost_ret (v := .tuple #[.agg #[.int .i64 n0, .int .i64 v2], .bool true]) (by simp [results, Tryz.results71, go_sem, q0, q1]) rfl ⟨rfl, ?_⟩
          go_grown
        · obtain ⟨rfl, rfl, rfl⟩ : n = 0 ∧ d = 0 ∧ t = false := by
            rcases HR.out with ⟨-, h, -⟩ | ⟨-, h⟩
            · exact absurd h hs2
            · exact h
          have hqt : (ratL n0 v2 == s) = false := by simpa using hs2
          clear hs2
          obtain ⟨q0, k0⟩ := r0
          obtain ⟨q1, k1⟩ := r1
          go_wp2_with fail
          refine bodyPost_ret (v := .tuple #[.agg #[.int .i64 0, .int .i64 0], .bool false]) (by simp [results, Tryz.results71, go_sem, q0, q1]) rfl ⟨rfl, ?_⟩
          go_grown

theorem OwS.len {base : Nat} {w : World} {v : Value} {ls : List (List UInt8)} (h : OwS base w v ls) (hne : ls ≠ []) : ∃ g c, v = .slice (some ⟨g, 0, none⟩) ls.length c ∧ base ≤ g ∧ ∀ i l, ls[i]? = some l → w.cell? ⟨g, i, none⟩ = some (str l) := by
  have h0 := h
  rcases h.2 with ⟨_, hn⟩ | ⟨g, cap, cur, rfl, hb, hh, hl, hm, hs, hx⟩
  · exact absurd (List.eq_nil_of_length_eq_zero hn) hne
  · have hc := fun j hj => World.ownsRow.cellAt h0 j hj
    refine ⟨g, cap, rfl, hb, fun i l hi => ?_⟩
    have hi2 : i < ls.length := (List.getElem?_eq_some_iff.1 hi).1
    rw [hc i (by omega)]
    rw [List.getElem?_map, hi]
    rfl
theorem spL_ne (c : UInt8) (s : List UInt8) : spL c s ≠ [] := by
  cases s with
  | nil => simp [spL]
  | cons x r =>
    unfold spL
    split
    · simp
    · split <;> simp
theorem spL_len (c : UInt8) : ∀ s : List UInt8, (spL c s).length ≤ s.length + 1
  | [] => by simp [spL]
  | x :: r => by
    have ih := spL_len c r
    unfold spL
    split
    · simp; omega
    · split
      · simp
      · rename_i h; rw [h] at ih; simp at ih ⊢; omega
set_option maxRecDepth 100000 in
set_option maxHeartbeats 3200000 in
/-- raParse where the pieces tell that there is no fraction. -/
theorem raParse_off (s : List UInt8) (hs : s.length ≤ 1048576) (h : 22 < s.length ∨ (s.length ≤ 22 ∧ (spL 47 s).length ≠ 2) ∨ (s.length ≤ 22 ∧ ∃ b, spL 47 s = [[], b])) (w : World) :
    Calls Tryz.prog 71 #[str s] w (RetRB w 0 0 false) := by
  have fl : ∀ (l : List UInt8) W, (Builtin.len_ #[9] 3 #[str l]).run Tryz.prog W = .ok (.int .i64 l.length) W := fun l W => str_len _ _ l W (by kernel_rfl)
  have HC := Lib.hid (fun W => l1Split_is s 47 hs W)
  have hln := spL_len 47 s
  go_enter Tryz.func71, Tryz.ntmps71
  go_wp2_with fail
  refine (HC.out _).mono ?_
  rintro e w1 ⟨r, rfl, how, hb⟩
  obtain ⟨g, c, rfl, hg, hcell⟩ := how.len (spL_ne 47 s)
  have hB : Below w.heap.size w w1 := nextX (by go_grown) hb
  have r0 : Slot w1 w.heap.size 0 (.int .i64 0) := slotB hb ⟨by simp [go_sem], by simp [go_sem]⟩
  have r1 : Slot w1 w.heap.size 1 (.int .i64 0) := slotB hb ⟨by simp [go_sem], by simp [go_sem]⟩
  have z0 := lt_of_cell r0.1
  clear hb how hg HC
  rcases h with h | ⟨h1, h2⟩ | ⟨h1, b, h2⟩
  · have bs : decide ((22 : Int) < s.length) = true := by simp; omega
    generalize (spL 47 s).length = len at *
    clear hcell
    obtain ⟨q0, k0⟩ := r0
    obtain ⟨q1, k1⟩ := r1
    go_wp2_with fail
    refine bodyPost_ret (v := .tuple #[.agg #[.int .i64 0, .int .i64 0], .bool false]) (by simp [results, Tryz.results71, go_sem, q0, q1]) rfl ⟨rfl, ?_⟩
    go_grown
  · have bs : decide ((22 : Int) < s.length) = false := by simp; omega
    generalize (spL 47 s).length = len at *
    have bl : ((len : Int) == 2) = false := beq_eq_false_iff_ne.2 (by omega)
    have bl2 : ((len : Int) != 2) = true := by simp; omega
    clear hcell
    obtain ⟨q0, k0⟩ := r0
    obtain ⟨q1, k1⟩ := r1
    go_wp2_with fail
    refine bodyPost_ret (v := .tuple #[.agg #[.int .i64 0, .int .i64 0], .bool false]) (by simp [results, Tryz.results71, go_sem, q0, q1]) rfl ⟨rfl, ?_⟩
    go_grown
  · have bs : decide ((22 : Int) < s.length) = false := by simp; omega
    rw [h2] at hcell hln ⊢
    have p0 := hcell 0 [] rfl
    clear hcell
    have fz : ∀ W, (Builtin.len_ #[9] 3 #[str []]).run Tryz.prog W = .ok (.int .i64 0) W := fun W => str_len _ _ [] W (by kernel_rfl)
    obtain ⟨q0, k0⟩ := r0
    obtain ⟨q1, k1⟩ := r1
    go_wp2_with fail
    refine bodyPost_ret (v := .tuple #[.agg #[.int .i64 0, .int .i64 0], .bool false]) (by simp [results, Tryz.results71, go_sem, q0, q1]) rfl ⟨rfl, ?_⟩
    go_grown
theorem raParse_is (s : List UInt8) (n d : Int) (t : Bool) (hl : psQ s = ((n, d), t)) (hs : s.length ≤ 1048576) (w : World) :
    Calls Tryz.prog 71 #[str s] w (RetRB w n d t) := by
  have hc := psQ_cases hl
  have noOf : (∀ a b, okQ a b = true → s ≠ ratL a b) → n = 0 ∧ d = 0 ∧ t = false := by
    intro h
    rcases hc with ⟨-, ho, he⟩ | ⟨h1, h2, h3, -⟩
    · exact absurd he (h n d ho)
    · exact ⟨h2, h3, h1⟩
  by_cases h1 : 22 < s.length
  · obtain ⟨rfl, rfl, rfl⟩ := noOf (fun a b ho he => by have := ratL_len22 ho; rw [← he] at this; omega)
    exact raParse_off s hs (.inl h1) w
  · by_cases h2 : (spL 47 s).length = 2
    · obtain ⟨a, b, hsp⟩ : ∃ a b, spL 47 s = [a, b] := by
        match h : spL 47 s, h2 with
        | [a, b], _ => exact ⟨a, b, rfl⟩
      by_cases h3 : a = []
      · subst h3
        obtain ⟨rfl, rfl, rfl⟩ := noOf (fun n d ho he => by
          rw [he, spL_rat] at hsp
          injection hsp with hx _
          have := dec_ne_nil n.natAbs
          have := dec_ne_nil n.toNat
          unfold Lib.itoa at hx
          split at hx
          · cases hx
          · contradiction)
        exact raParse_off s hs (.inr (.inr ⟨by omega, b, hsp⟩)) w
      · obtain ⟨x, hx⟩ : ∃ x, a[0]? = some x := ⟨_, List.getElem?_eq_getElem (List.length_pos_iff.2 h3)⟩
        have key : ∀ (sg : Int) (a' : List UInt8), ((x = 45 ∧ sg = -1 ∧ a' = a.drop 1) ∨ (x ≠ 45 ∧ sg = 1 ∧ a' = a)) → (okQ (sg * rdL a') (rdL b) = true ∧ ratL (sg * rdL a') (rdL b) = s ∧ sg * rdL a' = n ∧ rdL b = d ∧ t = true) ∨ (¬ (okQ (sg * rdL a') (rdL b) = true ∧ ratL (sg * rdL a') (rdL b) = s) ∧ n = 0 ∧ d = 0 ∧ t = false) := by
          intro sg a' hsg
          by_cases hp : okQ (sg * rdL a') (rdL b) = true ∧ ratL (sg * rdL a') (rdL b) = s
          · have := psQ_yes (s := s) (q := (sg * rdL a', rdL b)) hp
            rw [hl] at this
            cases this
            exact .inl ⟨hp.1, hp.2, rfl, rfl, rfl⟩
          · refine .inr ⟨hp, noOf (fun m e ho he => hp ?_)⟩
            have bo := okQ_bd ho
            rw [he, spL_rat] at hsp
            injection hsp with e1 e2
            injection e2 with e2 _
            have hd : rdL b = e := by
              rw [← e2]
              have : Lib.itoa e = Lib.decDigits e.toNat := by unfold Lib.itoa; rw [if_neg (by omega)]
              rw [this, rdL_dec _ (by omega)]
              omega
            have hn : sg * rdL a' = m := by
              by_cases hm : m < 0
              · have ei : Lib.itoa m = 45 :: Lib.decDigits m.natAbs := by unfold Lib.itoa; rw [if_pos hm]
                rw [← e1, ei] at hx hsg
                simp at hx
                rcases hsg with ⟨-, rfl, rfl⟩ | ⟨h, -⟩
                · simp only [List.drop_succ_cons, List.drop_zero]
                  rw [rdL_dec _ (by omega)]
                  omega
                · exact absurd hx.symm h
              · have ei : Lib.itoa m = Lib.decDigits m.toNat := by unfold Lib.itoa; rw [if_neg hm]
                rw [← e1, ei] at hx hsg
                rcases hsg with ⟨rfl, -, -⟩ | ⟨-, rfl, rfl⟩
                · have := isDigit_dec m.toNat 45 (List.mem_of_getElem? hx)
                  simp at this
                · rw [rdL_dec _ (by omega)]
                  omega
            rw [hn, hd]
            exact ⟨ho, he.symm⟩
        by_cases h45 : x = 45
        · exact raParse_core s a b _ (-1) _ _ x hsp (by omega) hx (.inl ⟨h45, rfl, rfl⟩) rfl rfl n d t (key (-1) _ (.inl ⟨h45, rfl, rfl⟩)) w
        · exact raParse_core s a b _ 1 _ _ x hsp (by omega) hx (.inr ⟨h45, rfl, rfl⟩) rfl rfl n d t (key 1 _ (.inr ⟨h45, rfl, rfl⟩)) w
    · obtain ⟨rfl, rfl, rfl⟩ := noOf (fun a b ho he => by rw [he, spL_rat] at h2; exact h2 rfl)
      exact raParse_off s hs (.inr (.inl ⟨by omega, h2⟩)) w

end Go.Proofs.YtkeajfgcjmhmiaaGreatDoor
