/- ParseMap of the program. -/
import Derived.Test.YtkeajfgcjmhmiaaGreatDoorM11
import Derived.Test.YtkeajfgcjmhmiaaGreatDoorM42
import Derived.Test.YtkeajfgcjmhmiaaGreatDoorM45
namespace Go.Proofs.YtkeajfgcjmhmiaaGreatDoor
open Go.RowKit

/-- What a call that gives points and a flag leaves. -/
def RetMB (w : World) (ps : List Pt) (t : Bool) (e : Ending) (w' : World) : Prop := ∃ r, e = .returned (.tuple #[r, .bool t]) ∧ OwP w.heap.size 41 w' r ps ∧ Below w.heap.size w w'
def lenS : Value → Nat
  | .string b => b.size
  | _ => 0
theorem lenS_str (l : List UInt8) : lenS (str l) = l.length := str_size l
theorem neq_empty (W : World) (r : List UInt8) : (binOp .neq 9 (str r) (.string ⟨#[]⟩)).run Tryz.prog W = .ok (.bool (decide (r ≠ []))) W := neq_str W r []

def RelRp (s : List UInt8) (w : World) (sv out : Value) (wr : World) : Prop := ∃ (qs : List Pt) (r : List UInt8), sv = str r ∧ s = mapL qs ++ r ∧ OkP qs ∧ OwP w.heap.size 41 wr out qs ∧ Below w.heap.size w wr
set_option maxRecDepth 100000 in
set_option maxHeartbeats 3200000 in
theorem readPoints_is (s : List UInt8) (m : List Pt) (t : Bool) (hl : rpQ s = (m, t)) (hs : s.length ≤ 1048576) (w : World) (hT : Tab w) (hA : AtW w) (hC : CutW w) :
    Calls Tryz.prog 36 #[str s] w (RetMB w m t) := by
  have HL := Lib.hid hl
  clear hl
  go_enter Tryz.func36, Tryz.ntmps36
  go_wp2_with fail
  go_loopw [0, 4] (fun sv out wr => RelRp s w sv out wr) (fun sv _ _ => lenS sv)
  case atStart => exact ⟨[], s, rfl, rfl, fun p hp => by simp at hp, World.ownsRow_nil _ _ _ _, Below.refl _ _⟩
  case round =>
    obtain ⟨ps, r, rfl, hsr, ho, hown, hb⟩ := hrel
    have hzr := hb.size
    have hsl : (mapL ps).length + r.length = s.length := by rw [hsr]; simp
    have hml := mapL_long ps
    have HS := Lib.hid hsr
    have HK := Lib.hid ho
    have HO := Lib.hid hown
    clear hsr ho hown
    by_cases hr : r = []
    · subst hr
      have hq : ∀ W, (binOp .neq 9 (str []) (.string ⟨#[]⟩)).run Tryz.prog W = .ok (.bool false) W := fun W => by rw [neq_empty]; simp
      have hg : ∀ (W : World) (x y : Operand), (eqGuard .neq 9 x y (str []) (.string ⟨#[]⟩)).run Tryz.prog W = .ok () W := fun W x y => by unfold str; go_simp
      obtain ⟨rfl, rfl⟩ : ps = m ∧ true = t := by
        have h := HL.out
        rw [rpQ_yes (ps := ps) ⟨HK.out, by rw [HS.out]; simp⟩] at h
        exact Prod.mk.inj h
      go_wp2_with fail
      go_ret2
      exact ⟨_, rfl, HO.out, hb⟩
    · have hq : ∀ W, (binOp .neq 9 (str r) (.string ⟨#[]⟩)).run Tryz.prog W = .ok (.bool true) W := fun W => by rw [neq_empty]; simp [hr]
      have hg : ∀ (W : World) (x y : Operand), (eqGuard .neq 9 x y (str r) (.string ⟨#[]⟩)).run Tryz.prog W = .ok () W := fun W x y => by unfold str; go_simp
      obtain ⟨word, rest, f, hc1⟩ : ∃ a b f, Lib.cut r [59] = (a, b, f) := ⟨_, _, _, rfl⟩
      obtain ⟨head, tail, g, hc2⟩ : ∃ a b f, Lib.cut word [32] = (a, b, f) := ⟨_, _, _, rfl⟩
      obtain ⟨x1, x2, t1, hp1⟩ : ∃ n d t, psQ head = ((n, d), t) := ⟨_, _, _, rfl⟩
      obtain ⟨y1, y2, t2, hp2⟩ : ∃ n d t, psQ tail = ((n, d), t) := ⟨_, _, _, rfl⟩
      have hl1 := cut_len hc1
      have hl2 := cut_len hc2
      have HC1 := Lib.hid hc1
      have HC2 := Lib.hid hc2
      have HP1 := Lib.hid hp1
      have HP2 := Lib.hid hp2
      have HR := Lib.hid hr
      clear hc1 hc2 hp1 hp2 hr
      go_wp2_with fail
      refine (cut_is r [59] _ _ _ HC1.out (by omega) _ (hC.keep (nextX hb (by go_grown)))).mono ?_
      rintro e w1 ⟨rfl, h1⟩
      have hX : Below wr.heap.size wr w1 := nextX (by go_grown) h1
      replace HO := Lib.hid (HO.out.keep hX)
      replace hb := nextW hb hX
      clear h1 hX
      go_wp2_with fail
      refine (cut_is word [32] _ _ _ HC2.out (by omega) _ (hC.keep (nextX hb (by go_grown)))).mono ?_
      rintro e w2 ⟨rfl, h1⟩
      have hX : Below w1.heap.size w1 w2 := nextX (by go_grown) h1
      replace HO := Lib.hid (HO.out.keep hX)
      replace hb := nextW hb hX
      clear h1 hX
      go_wp2_with fail
      refine (iParseRat_is head x1 x2 t1 HP1.out (by omega) _ (hT.keep (nextX hb (by go_grown))) (hA.keep (nextX hb (by go_grown))) (hC.keep (nextX hb (by go_grown)))).mono ?_
      rintro e w3 ⟨rfl, h1⟩
      have hX : Below w2.heap.size w2 w3 := nextX (by go_grown) h1
      replace HO := Lib.hid (HO.out.keep hX)
      replace hb := nextW hb hX
      clear h1 hX
      go_wp2_with fail
      refine (iParseRat_is tail y1 y2 t2 HP2.out (by omega) _ (hT.keep (nextX hb (by go_grown))) (hA.keep (nextX hb (by go_grown))) (hC.keep (nextX hb (by go_grown)))).mono ?_
      rintro e w4 ⟨rfl, h1⟩
      have hX : Below w3.heap.size w3 w4 := nextX (by go_grown) h1
      have c0 : w4.cell? ⟨w3.heap.size, 0, none⟩ = some (.int .i64 x1) := cellB h1 (by simp [go_sem])
      have c1 : w4.cell? ⟨w3.heap.size, 1, none⟩ = some (.int .i64 x2) := cellB h1 (by simp [go_sem])
      have z0 := lt_of_cell c0
      replace HO := Lib.hid (HO.out.keep hX)
      replace hb := nextW hb hX
      clear h1 hX
      have hz4 := hb.size
      by_cases hall : f = true ∧ g = true ∧ t1 = true ∧ t2 = true
      · obtain ⟨rfl, rfl, rfl, rfl⟩ := hall
        have HH := Lib.hid (head_yes HC1.out HC2.out HP1.out HP2.out)
        go_wp2_with (at_builtin; refine append_p1 _ rfl _ _ rfl w.heap.size _ ps rfl ?own _ _ x1 x2 y1 y2 rfl ?c0 ?c1 ?c2 ?c3 ?len ?base ?_)
        case own => exact (HO.out.keep (by go_grown))
        case c0 => simp [go_sem]
        case c1 => simp [go_sem]
        case c2 => simp [go_sem]
        case c3 => simp [go_sem]
        case len => omega
        case base => go_size
        intro v' w' hown h7
        have hb3 : Below w.heap.size w w' := Below.trans (by go_grown) h7
        have HO3 := Lib.hid hown
        clear hown h7 c0 c1
        go_wp2_with fail
        go_roundw
        case rel =>
          refine ⟨ps ++ [((x1, x2), y1, y2)], rest, rfl, ?_, ?_, HO3.out, hb3⟩
          · rw [HS.out, HH.out.2.2, mapL_snoc]; simp
          · intro p hp
            rcases List.mem_append.1 hp with hp | hp
            · exact HK.out p hp
            · simp at hp; subst hp; exact ⟨HH.out.1, HH.out.2.1⟩
        case measure =>
          have h := congrArg List.length HH.out.2.2
          rw [ptL_body] at h
          simp only [List.length_append, List.length_cons, List.length_nil] at h
          simp only [lenS_str]
          omega
      · obtain ⟨rfl, rfl⟩ : [] = m ∧ false = t := by
          have h := HL.out
          rw [rpQ_stop HS.out HK.out HR.out (head_no HC1.out HC2.out HP1.out HP2.out hall)] at h
          exact Prod.mk.inj h
        rcases f with _ | _
        · go_wp2_with fail
          go_ret2
          exact ⟨_, rfl, World.ownsRow_nil _ _ _ _, by go_grown⟩
        · rcases g with _ | _
          · go_wp2_with fail
            go_ret2
            exact ⟨_, rfl, World.ownsRow_nil _ _ _ _, by go_grown⟩
          · rcases t1 with _ | _
            · go_wp2_with fail
              go_ret2
              exact ⟨_, rfl, World.ownsRow_nil _ _ _ _, by go_grown⟩
            · rcases t2 with _ | _
              · go_wp2_with fail
                go_ret2
                exact ⟨_, rfl, World.ownsRow_nil _ _ _ _, by go_grown⟩
              · exact absurd ⟨rfl, rfl, rfl, rfl⟩ hall

set_option maxHeartbeats 1600000 in
theorem iParseMap_is (s : List UInt8) (m : List Pt) (t : Bool) (hl : pmQ s = (m, t)) (hs : s.length ≤ 1048576) (w : World) (hT : Tab w) (hA : AtW w) (hC : CutW w) :
    Calls Tryz.prog 12 #[str s] w (RetMB w m t) := by
  obtain ⟨qs, f, hr⟩ : ∃ a b, rpQ s = (a, b) := ⟨_, _, rfl⟩
  have hp := pm_of_rp hr hl
  have hq := rpQ_ok hr
  have HR := Lib.hid hr
  clear hr hl
  go_enter Tryz.func12, Tryz.ntmps12
  go_wp2_with fail
  refine (readPoints_is s qs f HR.out hs _ (hT.keep (by go_grown)) (hA.keep (by go_grown)) (hC.keep (by go_grown))).mono ?_
  rintro e w1 ⟨r, rfl, how, h1⟩
  have hB : Below w.heap.size w w1 := nextX (by go_grown) h1
  have HO := Lib.hid (OwP.low how (b := w.heap.size) (by go_size))
  clear h1 how
  rcases hp with ⟨rfl, hm, rfl, rfl⟩ | ⟨hor, rfl, rfl⟩
  · have HM := Lib.hid hm
    clear hm
    go_wp2_with fail
    refine (isMap_is m r true _ (HO.out.read.keep (by go_grown)) (by omega) HM.out).mono ?_
    rintro e w2 ⟨rfl, h1⟩
    have hX : Below w1.heap.size w1 w2 := nextX (by go_grown) h1
    replace HO := Lib.hid (HO.out.keep hX)
    replace hB := nextW hB hX
    clear h1 hX
    go_wp2_with fail
    go_ret2
    exact ⟨_, rfl, HO.out, hB⟩
  · rcases f with _ | _
    · clear hor
      go_wp2_with fail
      go_ret2
      exact ⟨_, rfl, World.ownsRow_nil _ _ _ _, hB⟩
    · have HM := Lib.hid (show okMap qs = false by simpa using hor)
      clear hor
      go_wp2_with fail
      refine (isMap_is qs r false _ (HO.out.read.keep (by go_grown)) (by omega) HM.out).mono ?_
      rintro e w2 ⟨rfl, h1⟩
      have hX : Below w1.heap.size w1 w2 := nextX (by go_grown) h1
      replace hB := nextW hB hX
      clear h1 hX
      go_wp2_with fail
      go_ret2
      exact ⟨_, rfl, World.ownsRow_nil _ _ _ _, hB⟩

end Go.Proofs.YtkeajfgcjmhmiaaGreatDoor
