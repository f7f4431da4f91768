/- Proved: for all lists of points, the program's MapText returns what the reference's returns, and the argument reads afterwards as it did; the library's tables are as its text lays them (the card ties them to this pruned copy of the project). -/
import Derived.Test.YtmabngjmfjjogaaDoorMapT
import Derived.Test.YtmabngjmfjjogaaDoorLaws
import Derived.Test.YtmabngjmfjjogaaDoorCards
import Derived.Test.YtmabngjmfjjogaaDoorTie
import Derived.SevenTiedAt
import Derived.Lib.LaidTab
import Derived.LaidMore
import Derived.Stop.LaidErr
import Derived.Stop.Joined
import Derived.ProofKit
namespace Go.Proofs.YtmabngjmfjjogaaDoor.lawMapText
open Go.Proofs.YtmabngjmfjjogaaDoor
open Go.ChangeShapes Go.WideShapes Go.ChangeAt Go.RowKit Go.Joins

theorem run_neq_str (W : World) (l : List UInt8) : (binOp .neq 9 (str l) (str l)).run Tryd.prog W = .ok (.bool false) W := by
  unfold str
  go_simp
set_option maxRecDepth 100000 in
set_option maxHeartbeats 1600000 in
theorem walk (ps : List Pt) (v : Value) (l : List UInt8) (t : Bool) (hl : mtQ ps = (l, t)) (w : World) (hv : RdP w v ps) (ht : Tab w) :
    Calls Tryd.prog 4 #[v] w fun e w' => e = .returned (.bool true) ∧ Below w.heap.size w w' := by
  by_cases hn : ps.length ≤ 1048576
  · have HL := Lib.hid hl
    have hne : ∀ W, (binOp .neq 9 (str l) (str l)).run Tryd.prog W = .ok (.bool false) W := fun W => run_neq_str W l
    have heg : ∀ (W : World) (x y : Operand), (eqGuard .neq 9 x y (str l) (str l)).run Tryd.prog W = .ok () W := fun W x y => by unfold str; go_simp
    clear hl
    go_enter Tryd.func4, Tryd.ntmps4
    go_wp2_with fail
    refine (szPointS_fits ps v 1048576 _ hv (by omega) (by omega)).mono ?_
    rintro e w0 ⟨rfl, rfl⟩
    go_wp2_with fail
    refine (toPointS_any ps v _ hv hn).mono ?_
    rintro e w1 ⟨r1, rfl, o1, hb⟩
    go_wp2_with fail
    refine (sMapText_is ps r1 l t HL.out _ o1.read hn).mono ?_
    rintro e w2 ⟨rfl, hb2⟩
    replace hb := nextW hb hb2
    clear hb2 o1
    go_wp2_with fail
    refine (toPointS_any ps v _ (hv.keep hb) hn).mono ?_
    rintro e w3 ⟨r3, rfl, o3, hb2⟩
    replace hb := nextW hb hb2
    clear hb2
    go_wp2_with fail
    refine (iMapText_is ps r3 l t HL.out _ o3.read hn (ht.keep hb)).mono ?_
    rintro e w4 ⟨rfl, hb2⟩
    replace o3 := o3.keep hb2
    replace hb := nextW hb hb2
    clear hb2
    go_wp2_with fail
    refine (toPointS_any ps v _ (hv.keep hb) hn).mono ?_
    rintro e w5 ⟨r5, rfl, o5, hb2⟩
    replace o3 := o3.keep hb2
    replace hb := nextW hb hb2
    clear hb2
    go_wp2_with fail
    refine (eqPointS_same ps r3 r5 _ o3.read o5.read).mono ?_
    rintro e w6 ⟨rfl, hb2⟩
    replace hb := nextW hb hb2
    clear hb2
    go_wp2_with fail
    go_ret
    exact ⟨rfl, hb⟩
  · clear hl
    go_enter Tryd.func4, Tryd.ntmps4
    go_wp2_with fail
    refine (szPointS_over ps v 1048576 _ hv (by omega) (by omega) (by omega)).mono ?_
    rintro e w0 ⟨rfl, rfl⟩
    go_wp2_with fail
    go_ret
    exact ⟨rfl, Below.refl _ _⟩

theorem gT : Tryd.prog.globalNamed "internal/strconv.uint64pow10" = some 3 := by kernel_rfl
theorem gTy : (Tryd.prog.globals[3]?).map (·.type) = some 180 := by kernel_rfl
theorem tab_of {W : World} (h : laidMetH Tryd.prog Rows.fnExactMapTextRow.laid W) : Tab W := by
  rw [MakeChecks.laidMetH_plain _ _ _ (by kernel_rfl)] at h
  exact Lib.tabIs_of_head (n := 20) (e := 107) gT gTy (by kernel_rfl) (by kernel_rfl) (by kernel_rfl) (by kernel_rfl) h.tail.tail

/-- The door's own heap meets the condition. -/
theorem door_met (os : Os) (args : Array Value) : laidMetH Tryd.prog Rows.fnExactMapTextRow.laid ((World.doorLaid Tryd.prog 400 os).forCall (fun _ _ => 0) ⟨#[], args, []⟩).memory :=
  laidMetH_of_parts3 (fuel := 8) (laidMet_of_run' 8 (by kernel_rfl) (by kernel_rfl)) (by kernel_rfl) (by kernel_rfl)

set_option maxRecDepth 100000 in
theorem lifted (os : Os) (started : os.Started) (H : Type) (enc : TypeId × Value → H) :
    ReturnsInHanded {} Tryd.checked os 4 .any (fun w args => (Rows.fnExactMapTextSpec.pre enc Tryd.prog Tryd.f4 [] false w args ∧ laidMetH Tryd.prog Rows.fnExactMapTextRow.laid w) ∧ sizedMet enc Tryd.prog Tryd.f4 (OpenSpec.ofChange Rows.fnExactMapTextSpec) false w args)
      (Rows.fnExactMapTextSpec.post enc Tryd.prog Tryd.f4 false true false false) := by
  refine returnsInHanded_of_change_and (C := Tryd.checked) (X := fun w _ => laidMetH Tryd.prog Rows.fnExactMapTextRow.laid w) (fun _ _ _ hh h => h.of_heap hh) Tryd.own started (by kernel_rfl) Tryd.func4
    (ChangeSpec.witness_shaped (enc := enc) (C := Tryd.checked) (os := os) (X := fun w _ => laidMetH Tryd.prog Rows.fnExactMapTextRow.laid w) false (World.doorLaid Tryd.prog 400 os) #[.slice none 0 0] 8 rfl (World.shaped_of_RefB (by kernel_rfl) (by kernel_rfl)) (by kernel_rfl) (by kernel_rfl) (by kernel_rfl) (door_met os _)) ?_
  intro W base args ds gs before hval0 hW _ _ hL _
  have hval : ∀ (j : Nat) t v, Tryd.f4.params[j]? = some t → args[j]? = some v → Value.okWide Tryd.prog W .any base t v := hval0
  have hW' := hW
  obtain ⟨p, q, hA0, hV, rfl, hfz, hnd⟩ := hW
  have hA : DataW.TrodAll enc Tryd.prog W 0 (fun _ => true) true Tryd.f4.params.toList args.toList ds p := hA0
  rw [Tryd.params4] at hA hval
  obtain ⟨v0, d0, rfl, rfl, h0⟩ := trodAll_one hA
  obtain ⟨ps0, hp0⟩ := open_pts (hval 0 29 v0 rfl rfl) h0
  have hT := tab_of hL
  refine (walk ps0 _ _ _ rfl W hp0 hT).mono fun e W' ⟨he, hb⟩ => ?_
  subst he
  exact ⟨_, rfl, law_close Tryd.laidOut (by kernel_rfl) (by kernel_rfl) Tryd.underlying4 rfl hW' (fun h => by rfl) hb⟩

theorem row_holds : Rows.FnExactMapTextSaid :=
  OpenClaim.holds_of_wide 4 Tryd.f4 rfl rfl rfl rfl rfl rfl rfl ⟨rfl, rfl, rfl, rfl, rfl⟩ rfl rfl rfl rfl rfl (by kernel_rfl) Tryd.func4 (by kernel_rfl)
    (of_decide_eq_true (by kernel_rfl)) (by unfold Func.isWrapper; first | (rw [if_pos (by decide +kernel)]; kernel_rfl) | (rw [if_neg (by decide +kernel)]; exact ⟨rfl, rfl⟩))
    (fun os started H enc _ => lifted os started H enc)

theorem proved : Rows.FnExactMapTextCardSaid :=
  Claim7.holds_tied_plain_at .later [] [.data, .data, .data] true Rows.fnExactMapTextCard.stood.harness true
    row_holds (fun _ h => by cases h) (by kernel_rfl) (fun _ h => by cases h) fnExactMapText_row_tie rfl ⟨rfl, rfl⟩ (by kernel_rfl) rfl
    (fun f fn hf hfn => by
      obtain rfl : f = 4 := Option.some.inj ((show Tryd.prog.funcNamed "loop.example/g01003/laws.FnExactMapText" = some 4 by kernel_rfl).symm.trans hf) |>.symm
      obtain rfl : fn = Tryd.f4 := (Option.some.inj (Tryd.func4.symm.trans hfn)).symm
      exact ⟨by kernel_rfl, fun j t ht => by
        rw [Tryd.params4] at ht
        have h3 : t = 29 := by
          rcases j with _ | j
          · simpa using ht.symm
          · simp at ht
        subst h3
        exact (show Tryd.prog.wantsStandIn 29 = false by kernel_rfl)⟩)
    (by kernel_rfl)

end Go.Proofs.YtmabngjmfjjogaaDoor.lawMapText
