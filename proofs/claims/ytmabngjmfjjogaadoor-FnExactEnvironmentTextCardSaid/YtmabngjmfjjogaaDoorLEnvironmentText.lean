/- Proved: for all lists of named maps, the program's EnvironmentText returns what the reference's returns, and the argument reads afterwards as it did; the library's tables are as its text lays them (the card ties them to this pruned copy of the project). -/
import Derived.Test.YtmabngjmfjjogaaDoorEnvT
import Derived.Test.YtmabngjmfjjogaaDoorLaws
import Derived.Test.YtmabngjmfjjogaaDoorCards
import Derived.Test.YtmabngjmfjjogaaDoorTie
import Derived.SevenTiedAt
import Derived.Lib.LaidTab
import Derived.LaidMore
import Derived.Stop.LaidErr
import Derived.Stop.Joined
import Derived.Shelf.Vars
import Derived.ProofKit
import Derived.Lay
namespace Go.Proofs.YtmabngjmfjjogaaDoor.lawEnvironmentText
open Go.Proofs.YtmabngjmfjjogaaDoor
open Go.ChangeShapes Go.WideShapes Go.ChangeAt Go.RowKit Go.Joins

set_option maxRecDepth 100000 in
set_option maxHeartbeats 1600000 in
theorem walk (ns : List Nm) (v : Value) (w : World) (hv : RdE w v ns) (hnm : NmL ns) (hC : CutW w) (hT : Tab w) :
    Calls Tryd.prog 8 #[v] w fun e w' => e = .returned (.bool true) ∧ Below w.heap.size w w' := by
  obtain ⟨l, t, ht⟩ : ∃ l t, etQ ns = (l, t) := ⟨_, _, rfl⟩
  have hne : ∀ W, (binOp .neq 9 (str l) (str l)).run Tryd.prog W = .ok (.bool false) W := fun W => by unfold str; go_simp
  have heg : ∀ (W : World) (x y : Operand), (eqGuard .neq 9 x y (str l) (str l)).run Tryd.prog W = .ok () W := fun W x y => by unfold str; go_simp
  have HT := Lib.hid ht
  clear ht
  go_enter Tryd.func8, Tryd.ntmps8
  go_wp2_with fail
  refine (szNamedS_is ns v 1048576 _ (by omega) hv hnm).mono ?_
  rintro e w0 ⟨r, rfl, hr, h1⟩
  have hB : Below w.heap.size w w0 := nextX (by go_grown) h1
  clear h1
  rcases hr with ⟨hle, rfl⟩ | ⟨hlt, rfl⟩
  · have b0 : ¬ (1048576 : Int) - ((ns.length + totN ns : Nat) : Int) < 0 := by omega
    have b0' : decide ((1048576 : Int) - ((ns.length + totN ns : Nat) : Int) < 0) = false := by simpa using b0
    have hn : ns.length ≤ 1048576 := by omega
    have hm : ∀ n ∈ ns, n.2.length ≤ 1048576 := fun n hn => by have := szOf_le hn; unfold szOf at this; omega
    obtain ⟨r, hr⟩ : ∃ r : Int, r = (1048576 : Int) - ((ns.length + totN ns : Nat) : Int) := ⟨_, rfl⟩
    rw [show ((1048576 : Nat) : Int) - ((ns.length + totN ns : Nat) : Int) = r from hr.symm]
    rw [← hr] at b0 b0'
    clear hr hle
    go_wp2_with fail
    refine (toNamedS_any ns v _ (hv.keep (nextX hB (by go_grown))) hn hm).mono ?_
    rintro e w1 ⟨r1, rfl, o1, h1⟩
    replace hB := nextX hB (nextX (by go_grown) h1)
    clear h1
    go_wp2_with fail
    refine (sEnvironmentText_is ns r1 l t HT.out _ (o1.read.keep (by go_grown)) hnm hn hm).mono ?_
    rintro e w2 ⟨rfl, h1⟩
    replace hB := nextX hB (nextX (by go_grown) h1)
    clear h1 o1
    go_wp2_with fail
    refine (toNamedS_any ns v _ (hv.keep (nextX hB (by go_grown))) hn hm).mono ?_
    rintro e w3 ⟨r3, rfl, o3, h1⟩
    have O3 := Lib.hid o3.read
    replace hB := nextX hB (nextX (by go_grown) h1)
    clear h1 o3
    go_wp2_with fail
    refine (iEnvironmentText_is ns r3 l t HT.out _ (hC.keep (nextX hB (by go_grown))) (hT.keep (nextX hB (by go_grown))) (O3.out.keep (by go_grown)) hnm hn hm).mono ?_
    rintro e w4 ⟨rfl, h1⟩
    have hX : Below w3.heap.size w3 w4 := nextX (by go_grown) h1
    replace O3 := Lib.hid (O3.out.keep hX)
    replace hB := nextW hB hX
    clear h1 hX
    go_wp2_with fail
    refine (toNamedS_any ns v _ (hv.keep (nextX hB (by go_grown))) hn hm).mono ?_
    rintro e w5 ⟨r5, rfl, o5, h1⟩
    have hX : Below w4.heap.size w4 w5 := nextX (by go_grown) h1
    replace O3 := Lib.hid (O3.out.keep hX)
    have O5 := Lib.hid o5.read
    replace hB := nextW hB hX
    clear h1 hX o5
    go_wp2_with fail
    refine (eqNamedS_same ns r3 r5 _ (O3.out.keep (by go_grown)) (O5.out.keep (by go_grown))).mono ?_
    rintro e w6 ⟨rfl, h1⟩
    replace hB := nextX hB (nextX (by go_grown) h1)
    clear h1
    go_wp2_with fail
    go_ret
    exact ⟨rfl, hB⟩
  · go_wp2_with fail
    go_ret
    exact ⟨rfl, hB⟩
theorem cut_of {W : World} (h : W.ShapedOpen Tryd.prog) : CutW W :=
  cell_of_shapedOpen_int (t := 3) (zero := #[.int .i64 0]) h (of_decide_eq_true (by kernel_rfl)) (by kernel_rfl) rfl (by kernel_rfl) (by kernel_rfl) (by kernel_rfl)

theorem gT : Tryd.prog.globalNamed "internal/strconv.uint64pow10" = some 3 := by kernel_rfl
theorem gTy : (Tryd.prog.globals[3]?).map (·.type) = some 180 := by kernel_rfl
theorem tab_of {W : World} (h : laidMetH Tryd.prog Rows.fnExactEnvironmentTextRow.laid W) : Tab W := by
  rw [MakeChecks.laidMetH_plain _ _ _ (by kernel_rfl)] at h
  exact Lib.tabIs_of_head (n := 20) (e := 107) gT gTy (by kernel_rfl) (by kernel_rfl) (by kernel_rfl) (by kernel_rfl) h.tail.tail


theorem wrap_shaped {H : Type} {enc : TypeId × Value → H} {a : Assume} {C : Checked} {os : Os} {f : FuncId} {fn : Func} {s : ChangeSpec} {conds : List PathCond} {apart fresh handsOn again : Bool} {X : World → Array Value → Prop}
    (hX : ∀ (w w' : World) (args : Array Value), w.heap = w'.heap → X w args → X w' args)
    (own : ownKnob C.prog.godebug = none) (started : os.Started) (noInit : C.prog.inits.idxOf? f = none) (hfn : C.prog.funcs[f]? = some fn)
    (witness : ∃ (w : World) (tape : Tape) (i : Input), w.os = os ∧ (w.forCall tape i).Shaped C.prog ∧ i.vars = [] ∧ Input.okWide C.prog (w.forCall tape i) .any w.heap.size f i ∧
      ((s.pre enc C.prog fn conds apart (w.forCall tape i).memory i.args ∧ X (w.forCall tape i).memory i.args) ∧ sizedMet enc C.prog fn (OpenSpec.ofChange s) apart (w.forCall tape i).memory i.args) ∧ a.holds C.prog (lone (Frame.enter C.prog f i.args .normal) [] (w.forCall tape i)))
    (contract : ∀ (W : World) (base : Nat) (args : Array Value) (ds gs : List (DataW H)) (before : List MemPlace),
      (∀ (j : Nat) t v, fn.params[j]? = some t → args[j]? = some v → Value.okWide C.prog W .any base t v) →
      DataW.Whole enc C.prog fn.params.toList s.vars apart W args.toList ds gs before → X W args → W.ShapedOpen C.prog →
      Calls C.prog f args W fun e W' => ∃ v, e = .returned v ∧ s.post enc C.prog fn apart fresh handsOn again W args v W') :
    ReturnsInHanded a C os f .any (fun w args => (s.pre enc C.prog fn conds apart w args ∧ X w args) ∧ sizedMet enc C.prog fn (OpenSpec.ofChange s) apart w args) (s.post enc C.prog fn apart fresh handsOn again) := by
  refine returnsInHanded_of_calls own started noInit witness ?_
  intro w tape i _ hsh _ hok hpre _
  obtain ⟨_, _, _, fn', hfn', _, _, _, _, hval⟩ := hok
  have e : fn' = fn := Option.some.inj (hfn'.symm.trans hfn)
  subst e
  obtain ⟨⟨⟨ds, gs, before, hw, _⟩, hx⟩, _⟩ := hpre
  have hw' := DataW.Whole.of_heap (w' := w.forCall tape i) (by rfl) hw
  refine (contract (w.forCall tape i) w.heap.size i.args ds gs before hval hw' (hX _ _ _ (by rfl) hx) hsh).mono fun e W' ⟨v, he, hp⟩ => ?_
  subst he
  exact ChangeSpec.post_blind hp

/-- The door's own heap meets the condition. -/
theorem door_met (os : Os) (args : Array Value) : laidMetH Tryd.prog Rows.fnExactEnvironmentTextRow.laid ((World.laidAll Tryd.prog os Rows.fnExactEnvironmentTextRow.laid).forCall (fun _ _ => 0) ⟨#[], args, []⟩).memory := by rw [MakeChecks.laidMetH_plain _ _ _ (by kernel_rfl)]; exact laidMet_laidAll _ (by kernel_rfl) (by kernel_rfl)

set_option maxRecDepth 100000 in
theorem lifted (os : Os) (started : os.Started) (H : Type) (enc : TypeId × Value → H) :
    ReturnsInHanded {} Tryd.checked os 8 .any (fun w args => (Rows.fnExactEnvironmentTextSpec.pre enc Tryd.prog Tryd.f8 [] false w args ∧ laidMetH Tryd.prog Rows.fnExactEnvironmentTextRow.laid w) ∧ sizedMet enc Tryd.prog Tryd.f8 (OpenSpec.ofChange Rows.fnExactEnvironmentTextSpec) false w args)
      (Rows.fnExactEnvironmentTextSpec.post enc Tryd.prog Tryd.f8 false true false false) := by
  refine wrap_shaped (C := Tryd.checked) (X := fun w _ => laidMetH Tryd.prog Rows.fnExactEnvironmentTextRow.laid w) (fun _ _ _ hh h => h.of_heap hh) Tryd.own started (by kernel_rfl) Tryd.func8
    (ChangeSpec.witness_shaped (enc := enc) (C := Tryd.checked) (os := os) (X := fun w _ => laidMetH Tryd.prog Rows.fnExactEnvironmentTextRow.laid w) false (World.laidAll Tryd.prog os Rows.fnExactEnvironmentTextRow.laid) #[.slice none 0 0] 8 (World.laidAll_os _ _ _) (World.shaped_of_ZipB (by kernel_rfl) (by kernel_rfl)) (by kernel_rfl) (by kernel_rfl) (by kernel_rfl) (door_met os _)) ?_
  intro W base args ds gs before hval0 hW hL hsh
  have hval : ∀ (j : Nat) t v, Tryd.f8.params[j]? = some t → args[j]? = some v → Value.okWide Tryd.prog W .any base t v := hval0
  have hW' := hW
  obtain ⟨p, q, hA0, hV, rfl, hfz, hnd⟩ := hW
  have hA : DataW.TrodAll enc Tryd.prog W 0 (fun _ => true) true Tryd.f8.params.toList args.toList ds p := hA0
  rw [Tryd.params8] at hA hval
  obtain ⟨v0, d0, rfl, rfl, h0⟩ := trodAll_one hA
  obtain ⟨ns0, hp0, hl0⟩ := open_named (hval 0 43 v0 rfl rfl) h0
  have hT := tab_of hL
  refine (walk ns0 _ W hp0 hl0 (cut_of hsh) hT).mono fun e W' ⟨he, hb⟩ => ?_
  subst he
  exact ⟨_, rfl, law_close Tryd.laidOut (by kernel_rfl) (by kernel_rfl) Tryd.underlying4 rfl hW' (fun h => by rfl) hb⟩

theorem row_holds : Rows.FnExactEnvironmentTextSaid :=
  OpenClaim.holds_of_wide 8 Tryd.f8 rfl rfl rfl rfl rfl rfl rfl ⟨rfl, rfl, rfl, rfl, rfl⟩ rfl rfl rfl rfl rfl (by kernel_rfl) Tryd.func8 (by kernel_rfl)
    (of_decide_eq_true (by kernel_rfl)) (by unfold Func.isWrapper; first | (rw [if_pos (by decide +kernel)]; kernel_rfl) | (rw [if_neg (by decide +kernel)]; exact ⟨rfl, rfl⟩))
    (fun os started H enc _ => lifted os started H enc)

theorem proved : Rows.FnExactEnvironmentTextCardSaid :=
  Claim7.holds_tied_plain_at .later [] [.data, .data, .data, .data, .pinned] true Rows.fnExactEnvironmentTextCard.stood.harness true
    row_holds (fun _ h => by cases h) (by kernel_rfl) (fun _ h => by cases h) fnExactEnvironmentText_row_tie rfl ⟨rfl, rfl⟩ (by kernel_rfl) rfl
    (fun f fn hf hfn => by
      obtain rfl : f = 8 := Option.some.inj ((show Tryd.prog.funcNamed "loop.example/g01003/laws.FnExactEnvironmentText" = some 8 by kernel_rfl).symm.trans hf) |>.symm
      obtain rfl : fn = Tryd.f8 := (Option.some.inj (Tryd.func8.symm.trans hfn)).symm
      exact ⟨by kernel_rfl, fun j t ht => by
        rw [Tryd.params8] at ht
        have h3 : t = 43 := by
          rcases j with _ | j
          · simpa using ht.symm
          · simp at ht
        subst h3
        exact (show Tryd.prog.wantsStandIn 43 = false by kernel_rfl)⟩)
    (by kernel_rfl)

end Go.Proofs.YtmabngjmfjjogaaDoor.lawEnvironmentText
