/- ParseMap of the reference. -/
import Derived.Test.YtkeajfgcjmhmiaaGreatDoorM15
import Derived.Test.YtkeajfgcjmhmiaaGreatDoorM46
import Derived.Test.YtkeajfgcjmhmiaaGreatDoorM47
namespace Go.Proofs.YtkeajfgcjmhmiaaGreatDoor
open Go.RowKit

def RelPm (s : List UInt8) (N : Nat) (w1 : World) (out i : Value) (wr : World) : Prop := ∃ (k : Nat) (qs : List Pt), k ≤ N ∧ i = .int .i64 k ∧ OkP qs ∧ qs.map bodyL = (spL 59 s).take k ∧ OwP w1.heap.size 41 wr out qs ∧ Below w1.heap.size w1 wr
set_option maxRecDepth 100000 in
set_option maxHeartbeats 3200000 in
theorem imParse_is (s : List UInt8) (m : List Pt) (t : Bool) (hl : pmQ s = (m, t)) (hs : s.length ≤ 1048576) (w : World) :
    Calls Tryz.prog 37 #[str s] w (RetMB w m t) := by
  have HL := Lib.hid hl
  have HC := Lib.hid (fun W => l1Split_is s 59 (by omega) W)
  have hln := spL_len 59 s
  have hlp := List.length_pos_iff.2 (spL_ne 59 s)
  clear hl
  go_enter Tryz.func37, Tryz.ntmps37
  go_wp2_with fail
  refine (HC.out _).mono ?_
  rintro e w1 ⟨r, rfl, how, hb⟩
  obtain ⟨g, c, rfl, hg, hcell⟩ := how.len (spL_ne 59 s)
  have hB : Below w.heap.size w w1 := nextX (by go_grown) hb
  have hcap : (spL 59 s).length ≤ c ∧ c ≤ 9223372036854775807 := by
    obtain ⟨A, cap, hv, h1, h2⟩ := ownsRow_slice how
    injection hv with hv1 hv2 hv3
    subst hv3
    unfold maxLen at h2
    exact ⟨h1, by omega⟩
  have HCell := Lib.hid hcell
  clear hb how hg HC hcell
  obtain ⟨N, hN⟩ : ∃ N, (spL 59 s).length = N + 1 := ⟨_, (Nat.succ_pred_eq_of_pos hlp).symm⟩
  have HN := Lib.hid hN
  by_cases h13 : 12 < N
  · obtain ⟨rfl, rfl⟩ := pm_many HL.out (by omega)
    rw [hN]
    have b1 : (13 : Int) < ((N + 1 : Nat) : Int) := by omega
    clear hN
    go_wp2_with fail
    go_ret2
    exact ⟨_, rfl, World.ownsRow_nil _ _ _ _, by go_grown⟩
  · rw [hN]
    have b1 : ¬ (13 : Int) < ((N + 1 : Nat) : Int) := by omega
    have b2 : IntKind.i64.wrap (((N + 1 : Nat) : Int) - 1) = (N : Int) := by rw [IntWalk.i64_in _ (by omega)]; omega
    rw [hN] at hcap
    have hcapI : (N : Int) ≤ (c : Int) := by omega
    clear hN hln
    go_wp2_with fail
    go_loopw [5, 24] (fun out i wr => RelPm s N w1 out i wr) (fun _ i _ => N - (intOf i).toNat)
    case atStart => exact ⟨0, [], Nat.zero_le _, rfl, fun p hp => by simp at hp, by simp, World.ownsRow_nil _ _ _ _, by go_grown⟩
    case round =>
      obtain ⟨k, qs, hk, rfl, ho, hbod, hown, hb⟩ := hrel
      have hzr := hb.size
      have HK := Lib.hid ho
      have HBo := Lib.hid hbod
      have HO := Lib.hid hown
      have hql : qs.length = k := by
        have := congrArg List.length HBo.out
        rw [List.length_map, List.length_take, HN.out] at this
        omega
      clear ho hbod hown
      by_cases hlt : k < N
      · obtain ⟨l, hl⟩ : ∃ l, (spL 59 s)[k]? = some l := ⟨_, List.getElem?_eq_getElem (by rw [HN.out]; omega)⟩
        have hll := spL_mem (List.mem_of_getElem? hl)
        have c0 := cellB hb (HCell.out k l hl)
        have HLk := Lib.hid hl
        have hk1 : k + 1 < (spL 59 s).length := by rw [HN.out]; omega
        have HC2 := Lib.hid (fun W => l1Split_is l 32 (by omega) W)
        have b3 : (k : Int) < (N : Int) := by omega
        have b4 : IntKind.i64.wrap ((k : Int) + 1) = (k : Int) + 1 := IntWalk.i64_in _ (by omega)
        clear hl
        go_wp2_with fail
        refine (HC2.out _).mono ?_
        rintro e w2 ⟨r2, rfl, how, h1⟩
        have hX : Below wr.heap.size wr w2 := nextX (by go_grown) h1
        replace HO := Lib.hid (HO.out.keep hX)
        replace hb := nextW hb hX
        clear c0 HC2
        by_cases h2 : (spL 32 l).length = 2
        · obtain ⟨a, b, hsp⟩ : ∃ a b, spL 32 l = [a, b] := by
            match h : spL 32 l, h2 with
            | [a, b], _ => exact ⟨a, b, rfl⟩
          have la := spL_mem (c := 32) (s := l) (l := a) (by rw [hsp]; simp)
          have lb := spL_mem (c := 32) (s := l) (l := b) (by rw [hsp]; simp)
          rw [hsp] at how
          obtain ⟨g2, c2, rfl, hg2, s0, s1⟩ := how.two
          replace hg2 : w1.heap.size ≤ g2 := Nat.le_trans hzr (Nat.le_trans (by go_size) hg2)
          obtain ⟨x1, x2, t1, hp1⟩ : ∃ n d t, psQ a = ((n, d), t) := ⟨_, _, _, rfl⟩
          obtain ⟨y1, y2, t2, hp2⟩ : ∃ n d t, psQ b = ((n, d), t) := ⟨_, _, _, rfl⟩
          have HP1 := Lib.hid hp1
          have HP2 := Lib.hid hp2
          have HSp := Lib.hid hsp
          have e0 := s0.1
          have e1 := s1.1
          clear hp1 hp2 hsp how h1 hX h2 s0 s1
          have ze := lt_of_cell e0
          go_wp2_with fail
          refine (raParse_is a x1 x2 t1 HP1.out (by omega) _).mono ?_
          rintro e w3 ⟨rfl, h1⟩
          have hX : Below w2.heap.size w2 w3 := nextX (by go_grown) h1
          replace HO := Lib.hid (HO.out.keep hX)
          replace e0 := cellB hX e0
          replace e1 := cellB hX e1
          replace hb := nextW hb hX
          clear h1 hX
          have ze := lt_of_cell e0
          go_wp2_with fail
          refine (raParse_is b y1 y2 t2 HP2.out (by omega) _).mono ?_
          rintro e w4 ⟨rfl, h1⟩
          have hX : Below w3.heap.size w3 w4 := nextX (by go_grown) h1
          have d0 : w4.cell? ⟨w3.heap.size, 0, none⟩ = some (.int .i64 x1) := cellB h1 (by simp [go_sem])
          have d1 : w4.cell? ⟨w3.heap.size, 1, none⟩ = some (.int .i64 x2) := cellB h1 (by simp [go_sem])
          have zd := lt_of_cell d0
          replace HO := Lib.hid (HO.out.keep hX)
          replace hb := nextW hb hX
          clear h1 hX e0 e1 ze
          have hz4 := hb.size
          by_cases hall : t1 = true ∧ t2 = true
          · obtain ⟨rfl, rfl⟩ := hall
            have HH := Lib.hid (piece_yes HSp.out HP1.out HP2.out)
            go_wp2_with (at_builtin; refine append_p1 _ rfl _ _ rfl w1.heap.size _ qs rfl ?own _ _ x1 x2 y1 y2 rfl ?c0 ?c1 ?c2 ?c3 ?len ?base ?_)
            case own => exact (HO.out.keep (by go_grown))
            case c0 => simp [go_sem]
            case c1 => simp [go_sem]
            case c2 => simp [go_sem]
            case c3 => simp [go_sem]
            case len => omega
            case base => go_size
            intro v' w' hown h7
            have hb3 : Below w1.heap.size w1 w' := Below.trans (by go_grown) h7
            have HO3 := Lib.hid hown
            clear hown h7 d0 d1
            go_wp2_with fail
            go_roundw
            case rel =>
              refine ⟨k + 1, qs ++ [((x1, x2), y1, y2)], by omega, by go_num, ?_, ?_, HO3.out, hb3⟩
              · intro p hp
                rcases List.mem_append.1 hp with hp | hp
                · exact HK.out p hp
                · simp at hp; subst hp; exact ⟨HH.out.1, HH.out.2.1⟩
              · rw [List.map_append, HBo.out, snocT HLk.out, HH.out.2.2]; rfl
            case measure => simp [intOf] <;> omega
          · obtain ⟨rfl, rfl⟩ := pm_bad HL.out hk1 HLk.out (piece_no HSp.out HP1.out HP2.out hall)
            rcases t1 with _ | _
            · go_wp2_with fail
              go_ret2
              exact ⟨_, rfl, World.ownsRow_nil _ _ _ _, nextW hB (by go_grown)⟩
            · rcases t2 with _ | _
              · go_wp2_with fail
                go_ret2
                exact ⟨_, rfl, World.ownsRow_nil _ _ _ _, nextW hB (by go_grown)⟩
              · exact absurd ⟨rfl, rfl⟩ hall
        · obtain ⟨rfl, rfl⟩ := pm_bad HL.out hk1 HLk.out (piece_two h2)
          obtain ⟨g2, c2, rfl, hg2, hc2⟩ := how.len (spL_ne 32 l)
          generalize (spL 32 l).length = len at *
          have bl : ((len : Int) == 2) = false := beq_eq_false_iff_ne.2 (by omega)
          have bl2 : ((len : Int) != 2) = true := by simp; omega
          clear how h1 hX hc2
          go_wp2_with fail
          go_ret2
          exact ⟨_, rfl, World.ownsRow_nil _ _ _ _, nextW hB (by go_grown)⟩
      · obtain rfl : k = N := by omega
        have hend := pm_end HL.out HK.out (by rw [HBo.out, HN.out]; rfl)
        have b3 : ¬ (k : Int) < (k : Int) := by omega
        have hq : ∀ W, (binOp .neq 9 (str (mapL qs)) (str s)).run Tryz.prog W = .ok (.bool (decide (mapL qs ≠ s))) W := fun W => neq_str W _ _
        have hg : ∀ (W : World) (x y : Operand), (eqGuard .neq 9 x y (str (mapL qs)) (str s)).run Tryz.prog W = .ok () W := fun W x y => by unfold str; go_simp
        rcases ho : okMap qs with _ | _
        · obtain ⟨rfl, rfl⟩ : m = [] ∧ t = false := by
            rcases hend with ⟨h, -⟩ | ⟨-, h⟩
            · rw [ho] at h; cases h
            · exact h
          have HM := Lib.hid ho
          clear ho hend
          go_wp2_with fail
          refine (imGood_is qs _ false _ (HO.out.read.keep (by go_grown)) (by omega) HM.out).mono ?_
          rintro e w2 ⟨rfl, h1⟩
          have hX : Below wr.heap.size wr w2 := nextX (by go_grown) h1
          replace hb := nextW hb hX
          clear h1 hX
          go_wp2_with fail
          go_ret2
          exact ⟨_, rfl, World.ownsRow_nil _ _ _ _, nextW hB (by go_grown)⟩
        · have HM := Lib.hid ho
          clear ho
          go_wp2_with fail
          refine (imGood_is qs _ true _ (HO.out.read.keep (by go_grown)) (by omega) HM.out).mono ?_
          rintro e w2 ⟨rfl, h1⟩
          have hX : Below wr.heap.size wr w2 := nextX (by go_grown) h1
          replace hb := nextW hb hX
          replace HO := Lib.hid (HO.out.keep hX)
          clear h1 hX
          go_wp2_with fail
          refine (imText_is qs _ _ (HO.out.read.keep (by go_grown)) HK.out (by omega)).mono ?_
          rintro e w3 ⟨rfl, h1⟩
          have hX : Below w2.heap.size w2 w3 := nextX (by go_grown) h1
          replace hb := nextW hb hX
          replace HO := Lib.hid (HO.out.keep hX)
          clear h1 hX
          by_cases he : mapL qs = s
          · obtain ⟨rfl, rfl⟩ : m = qs ∧ t = true := by
              rcases hend with ⟨-, -, h⟩ | ⟨h | h, -⟩
              · exact h
              · rw [HM.out] at h; cases h
              · exact absurd he h
            have hd : decide (mapL m ≠ s) = false := by simp [he]
            clear hend he
            go_wp2_with fail
            go_ret2
            exact ⟨_, rfl, HO.out.low hB.size, nextW hB (by go_grown)⟩
          · obtain ⟨rfl, rfl⟩ : m = [] ∧ t = false := by
              rcases hend with ⟨-, h, -⟩ | ⟨-, h⟩
              · exact absurd h he
              · exact h
            have hd : decide (mapL qs ≠ s) = true := by simp [he]
            clear hend he
            go_wp2_with fail
            go_ret2
            exact ⟨_, rfl, World.ownsRow_nil _ _ _ _, nextW hB (by go_grown)⟩

set_option maxHeartbeats 800000 in
theorem sParseMap_is (s : List UInt8) (m : List Pt) (t : Bool) (hl : pmQ s = (m, t)) (hs : s.length ≤ 1048576) (w : World) :
    Calls Tryz.prog 13 #[str s] w (RetMB w m t) := by
  have HL := Lib.hid hl
  clear hl
  go_enter Tryz.func13, Tryz.ntmps13
  go_wp2_with fail
  refine (imParse_is s m t HL.out hs _).mono ?_
  rintro e w1 ⟨r, rfl, how, h1⟩
  have hB : Below w.heap.size w w1 := nextX (by go_grown) h1
  have HO := Lib.hid (OwP.low how (b := w.heap.size) (by go_size))
  clear h1 how
  go_wp2_with fail
  go_ret2
  exact ⟨_, rfl, HO.out, hB⟩

end Go.Proofs.YtkeajfgcjmhmiaaGreatDoor
