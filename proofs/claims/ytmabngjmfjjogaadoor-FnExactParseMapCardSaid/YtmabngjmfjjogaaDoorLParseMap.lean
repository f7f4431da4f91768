/- Proved: for all texts, the program's ParseMap returns what the reference's returns, what it returns is held by nothing else, and the argument reads afterwards as it did; the library's variables are as its text lays them (the card ties them to this pruned copy of the project). -/
import Derived.Test.YtmabngjmfjjogaaDoorPrmS
import Derived.Test.YtmabngjmfjjogaaDoorMarks
import Derived.Test.YtmabngjmfjjogaaDoorLaws
import Derived.Test.YtmabngjmfjjogaaDoorCards
import Derived.Test.YtmabngjmfjjogaaDoorTie
import Derived.SevenTiedAt
import Derived.Lib.LaidTab
import Derived.LaidMore
import Derived.Stop.LaidErr
import Derived.Stop.Joined
import Derived.Shelf.Vars
import Derived.ProofKit
namespace Go.Proofs.YtmabngjmfjjogaaDoor.lawParseMap
open Go.Proofs.YtmabngjmfjjogaaDoor
open Go.ChangeShapes Go.WideShapes Go.ChangeAt Go.RowKit Go.Joins

section
variable {H : Type} {enc : TypeId × Value → H}
set_option maxRecDepth 100000 in
theorem open_text {W : World} {base b0 : Nat} {v : Value} {d : DataW H} {p : List MemPlace} (hv : Value.okWide Tryd.prog W .any b0 9 v) (h : DataW.Trod enc Tryd.prog W base (fun _ => true) true 9 v d p) :
    ∃ l : List UInt8, v = str l ∧ True := by
  obtain ⟨s, rfl, -, -, -⟩ := Go.ChangeMaps.open_string Tryd.underlying9 hv h
  obtain ⟨⟨l⟩⟩ := s
  exact ⟨l, rfl, trivial⟩
end
set_option maxRecDepth 100000 in
set_option maxHeartbeats 3200000 in
theorem walk (s : List UInt8) (w : World) (hT : Tab w) (hA : AtW w) (hC : CutW w) :
    Calls Tryd.prog 6 #[str s] w fun e w' => e = .returned (.bool true) ∧ Below w.heap.size w w' := by
  have fl : ∀ W, (Builtin.len_ #[9] 3 #[str s]).run Tryd.prog W = .ok (.int .i64 s.length) W := fun W => str_len _ _ s W (by kernel_rfl)
  by_cases hs : s.length ≤ 1048576
  · have b : decide ((1048576 : Int) < s.length) = false := by simp; omega
    obtain ⟨m, t, hl⟩ : ∃ m t, pmQ s = (m, t) := ⟨_, _, rfl⟩
    have hml := pmQ_len hl
    have HL := Lib.hid hl
    clear hl
    go_enter Tryd.func6, Tryd.ntmps6
    go_wp2_with fail
    refine (sParseMap_is s m t HL.out hs _).mono ?_
    rintro e w1 ⟨sv, rfl, svo, hb⟩
    have hX : Below w.heap.size w w1 := nextX (by go_grown) hb
    obtain ⟨Bsv, hBsv, hBsvn, svo⟩ : ∃ B, w.heap.size ≤ B ∧ B ≤ w1.heap.size ∧ OwP B 74 w1 sv m := ⟨_, by go_size, hb.size, svo⟩
    have hw_sv : w.heap.size ≤ Bsv := hBsv
    have hB : Below w.heap.size w w1 := hX
    clear hb hX
    go_wp2_with fail
    refine (iParseMap_is s m t HL.out hs _ (hT.keep (nextX hB (by go_grown))) (hA.keep (nextX hB (by go_grown))) (hC.keep (nextX hB (by go_grown)))).mono ?_
    rintro e w2 ⟨gv, rfl, gvo, hb⟩
    have hX : Below w1.heap.size w1 w2 := nextX (by go_grown) hb
    obtain ⟨Bgv, hBgv, hBgvn, gvo⟩ : ∃ B, w1.heap.size ≤ B ∧ B ≤ w2.heap.size ∧ OwP B 74 w2 gv m := ⟨_, by go_size, hb.size, gvo⟩
    have sp_sv_gv : Sep sv gv := sep_rows svo gvo hBgv
    have hw_gv : w.heap.size ≤ Bgv := Nat.le_trans hB.size hBgv
    replace svo := svo.keep hX
    replace hBsvn := Nat.le_trans hBsvn hX.size
    replace hB := nextW hB hX
    clear hb hX
    go_wp2_with fail
    refine (eqPointS_same m gv sv _ (gvo.read.keep (by go_grown)) (svo.read.keep (by go_grown))).mono ?_
    rintro e w3 ⟨rfl, hb⟩
    have hX : Below w2.heap.size w2 w3 := nextX (by go_grown) hb
    replace svo := svo.keep hX
    replace hBsvn := Nat.le_trans hBsvn hX.size
    replace gvo := gvo.keep hX
    replace hBgvn := Nat.le_trans hBgvn hX.size
    replace hB := nextW hB hX
    clear hb hX
    go_wp2_with fail
    refine (markPointS_is Bgv m.length 74 gv _ 1 _ (ownsRow_keep gvo (by go_grown)) (Nat.le_trans hBgvn (by go_size)) (by omega) (by omega)).mono ?_
    rintro e w4 ⟨he, gm, hgm, hbut, hgo, hrow⟩
    obtain ⟨K, hK⟩ : ∃ K : Int, K = 1 + ((m.length * 4 : Nat) : Int) := ⟨_, rfl⟩
    rw [← hK] at he
    subst he
    have pK : 0 ≤ K ∧ K ≤ 200000000 := by omega
    have qK : 0 ≤ K := pK.1
    have HK := Lib.hid hK
    clear hK
    have hU : But gm w3 w4 := But.trans (But.of_below (B := w3.heap.size) (by go_grown) (Nat.le_refl _)) hbut
    have hgo2 : gv.ownBlock = some gm ∨ w3.heap.size ≤ gm := hgo.imp id (fun h => Nat.le_trans (by go_size) h)
    replace svo := svo.keepM hU hgo2 sp_sv_gv.symm
    replace hBsvn := Nat.le_trans hBsvn hU.size
    replace hBgvn := Nat.le_trans hBgvn hU.size
    replace hB := below_but hB hU (Nat.le_trans hw_gv hgm)
    have gvm := hrow
    clear hU hgo hgo2 hbut hrow hgm gvo
    go_wp2_with fail
    refine (heldPointS_is Bgv m.length 74 gv 1 _ (ownsRow_keep gvm (by go_grown)) (by omega) (by omega)).mono ?_
    rintro e w5 ⟨he, hb⟩
    have hX : Below w4.heap.size w4 w5 := nextX (by go_grown) hb
    rw [← HK.out] at he
    subst he
    replace svo := svo.keep hX
    replace hBsvn := Nat.le_trans hBsvn hX.size
    replace gvm := ownsRow_keep gvm hX
    replace hBgvn := Nat.le_trans hBgvn hX.size
    replace hB := nextW hB hX
    clear hb hX
    go_wp2_with fail
    refine (iParseMap_is s m t HL.out hs _ (hT.keep (nextX hB (by go_grown))) (hA.keep (nextX hB (by go_grown))) (hC.keep (nextX hB (by go_grown)))).mono ?_
    rintro e w6 ⟨hv, rfl, hvo, hb⟩
    have hX : Below w5.heap.size w5 w6 := nextX (by go_grown) hb
    obtain ⟨Bhv, hBhv, hBhvn, hvo⟩ : ∃ B, w5.heap.size ≤ B ∧ B ≤ w6.heap.size ∧ OwP B 74 w6 hv m := ⟨_, by go_size, hb.size, hvo⟩
    have sp_sv_hv : Sep sv hv := sep_rows svo hvo hBhv
    have hw_hv : w.heap.size ≤ Bhv := Nat.le_trans hB.size hBhv
    replace svo := svo.keep hX
    replace hBsvn := Nat.le_trans hBsvn hX.size
    replace gvm := ownsRow_keep gvm hX
    replace hBgvn := Nat.le_trans hBgvn hX.size
    replace hB := nextW hB hX
    clear hb hX
    go_wp2_with fail
    refine (eqPointS_same m hv sv _ (hvo.read.keep (by go_grown)) (svo.read.keep (by go_grown))).mono ?_
    rintro e w7 ⟨rfl, hb⟩
    have hX : Below w6.heap.size w6 w7 := nextX (by go_grown) hb
    replace svo := svo.keep hX
    replace hBsvn := Nat.le_trans hBsvn hX.size
    replace hvo := hvo.keep hX
    replace hBhvn := Nat.le_trans hBhvn hX.size
    replace gvm := ownsRow_keep gvm hX
    replace hBgvn := Nat.le_trans hBgvn hX.size
    replace hB := nextW hB hX
    clear hb hX
    go_wp2_with fail
    refine (heldPointS_is Bgv m.length 74 gv 1 _ (ownsRow_keep gvm (by go_grown)) (by omega) (by omega)).mono ?_
    rintro e w8 ⟨he, hb⟩
    have hX : Below w7.heap.size w7 w8 := nextX (by go_grown) hb
    rw [← HK.out] at he
    subst he
    replace svo := svo.keep hX
    replace hBsvn := Nat.le_trans hBsvn hX.size
    replace hvo := hvo.keep hX
    replace hBhvn := Nat.le_trans hBhvn hX.size
    replace gvm := ownsRow_keep gvm hX
    replace hBgvn := Nat.le_trans hBgvn hX.size
    replace hB := nextW hB hX
    clear hb hX
    go_wp2_with fail
    go_ret
    exact ⟨rfl, hB⟩
  · have b : decide ((1048576 : Int) < s.length) = true := by simp; omega
    go_enter Tryd.func6, Tryd.ntmps6
    go_wp2_with fail
    go_ret
    exact ⟨rfl, by go_grown⟩

theorem gT : Tryd.prog.globalNamed "internal/strconv.uint64pow10" = some 3 := by kernel_rfl
theorem gTy : (Tryd.prog.globals[3]?).map (·.type) = some 180 := by kernel_rfl
theorem g1 : Tryd.prog.globalNamed "strconv.ErrSyntax" = some 1 := by kernel_rfl
theorem g1y : (Tryd.prog.globals[1]?).map (·.type) = some 82 := by kernel_rfl
theorem g2 : Tryd.prog.globalNamed "strconv.ErrRange" = some 2 := by kernel_rfl
theorem g2y : (Tryd.prog.globals[2]?).map (·.type) = some 82 := by kernel_rfl
theorem uE : Tryd.prog.underlying 82 = some (.interface (Tryd.prog.methodsAt 82)) := by kernel_rfl
theorem star : "*" ++ "errors.errorString" = "*errors.errorString" := by decide
theorem eRow (u : TypeId) (h : Tryd.prog.typeName? 3 u = some "*errors.errorString") : u = 175 :=
  typeName_ptr_named (nm := "errors.errorString") (by rw [star]; kernel_rfl) (by kernel_rfl) (by decide) u (by rw [star]; exact h)
theorem tab_of {W : World} (h : laidMetH Tryd.prog Rows.fnExactParseMapRow.laid W) : Tab W ∧ AtW W := by
  rw [MakeChecks.laidMetH_plain _ _ _ (by kernel_rfl)] at h
  refine ⟨Lib.tabIs_of_head (n := 20) (e := 107) gT gTy (by kernel_rfl) (by kernel_rfl) (by kernel_rfl) (by kernel_rfl) h.tail.tail, ?_, ?_⟩
  · obtain ⟨a, s, h1, -⟩ := laid_sentinel (nm := "*errors.errorString") h.tail.tail.tail.tail g1 g1y uE eRow Tryd.underlying175 Tryd.underlying177 rfl rfl Tryd.underlying9 (by kernel_rfl) (by kernel_rfl)
    exact ⟨_, _, h1⟩
  · obtain ⟨a, s, h1, -⟩ := laid_sentinel (nm := "*errors.errorString") h.tail.tail.tail g2 g2y uE eRow Tryd.underlying175 Tryd.underlying177 rfl rfl Tryd.underlying9 (by kernel_rfl) (by kernel_rfl)
    exact ⟨_, _, h1⟩
theorem cut_of {W : World} (h : W.ShapedOpen Tryd.prog) : CutW W :=
  cell_of_shapedOpen_int (t := 3) (zero := #[.int .i64 0]) h (of_decide_eq_true (by kernel_rfl)) (by kernel_rfl) rfl (by kernel_rfl) (by kernel_rfl) (by kernel_rfl)


theorem wrap_shaped {H : Type} {enc : TypeId × Value → H} {a : Assume} {C : Checked} {os : Os} {f : FuncId} {fn : Func} {s : ChangeSpec} {conds : List PathCond} {apart fresh handsOn again : Bool} {X : World → Array Value → Prop}
    (hX : ∀ (w w' : World) (args : Array Value), w.heap = w'.heap → X w args → X w' args)
    (own : ownKnob C.prog.godebug = none) (started : os.Started) (noInit : C.prog.inits.idxOf? f = none) (hfn : C.prog.funcs[f]? = some fn)
    (witness : ∃ (w : World) (tape : Tape) (i : Input), w.os = os ∧ (w.forCall tape i).Shaped C.prog ∧ i.vars = [] ∧ Input.okWide C.prog (w.forCall tape i) .any w.heap.size f i ∧
      ((s.pre enc C.prog fn conds apart (w.forCall tape i).memory i.args ∧ X (w.forCall tape i).memory i.args) ∧ sizedMet enc C.prog fn (OpenSpec.ofChange s) apart (w.forCall tape i).memory i.args) ∧ a.holds C.prog (lone (Frame.enter C.prog f i.args .normal) [] (w.forCall tape i)))
    (contract : ∀ (W : World) (base : Nat) (args : Array Value) (ds gs : List (DataW H)) (before : List MemPlace),
      (∀ (j : Nat) t v, fn.params[j]? = some t → args[j]? = some v → Value.okWide C.prog W .any base t v) →
      DataW.Whole enc C.prog fn.params.toList s.vars apart W args.toList ds gs before → X W args → W.ShapedOpen C.prog →
      Calls C.prog f args W fun e W' => ∃ v, e = .returned v ∧ s.post enc C.prog fn apart fresh handsOn again W args v W') :
    ReturnsInHanded a C os f .any (fun w args => (s.pre enc C.prog fn conds apart w args ∧ X w args) ∧ sizedMet enc C.prog fn (OpenSpec.ofChange s) apart w args) (s.post enc C.prog fn apart fresh handsOn again) := by
  refine returnsInHanded_of_calls own started noInit witness ?_
  intro w tape i _ hsh _ hok hpre _
  obtain ⟨_, _, _, fn', hfn', _, _, _, _, hval⟩ := hok
  have e : fn' = fn := Option.some.inj (hfn'.symm.trans hfn)
  subst e
  obtain ⟨⟨⟨ds, gs, before, hw, _⟩, hx⟩, _⟩ := hpre
  have hw' := DataW.Whole.of_heap (w' := w.forCall tape i) (by rfl) hw
  refine (contract (w.forCall tape i) w.heap.size i.args ds gs before hval hw' (hX _ _ _ (by rfl) hx) hsh).mono fun e W' ⟨v, he, hp⟩ => ?_
  subst he
  exact ChangeSpec.post_blind hp

/-- The door's own heap meets the condition. -/
theorem door_met (os : Os) (args : Array Value) : laidMetH Tryd.prog Rows.fnExactParseMapRow.laid ((World.doorLaid Tryd.prog 400 os).forCall (fun _ _ => 0) ⟨#[], args, []⟩).memory :=
  laidMetH_of_parts3 (fuel := 8) (laidMet_of_run' 8 (by kernel_rfl) (by kernel_rfl)) (by kernel_rfl) (by kernel_rfl)

set_option maxRecDepth 100000 in
theorem lifted (os : Os) (started : os.Started) (H : Type) (enc : TypeId × Value → H) :
    ReturnsInHanded {} Tryd.checked os 6 .any (fun w args => (Rows.fnExactParseMapSpec.pre enc Tryd.prog Tryd.f6 [] false w args ∧ laidMetH Tryd.prog Rows.fnExactParseMapRow.laid w) ∧ sizedMet enc Tryd.prog Tryd.f6 (OpenSpec.ofChange Rows.fnExactParseMapSpec) false w args)
      (Rows.fnExactParseMapSpec.post enc Tryd.prog Tryd.f6 false true false false) := by
  refine wrap_shaped (C := Tryd.checked) (X := fun w _ => laidMetH Tryd.prog Rows.fnExactParseMapRow.laid w) (fun _ _ _ hh h => h.of_heap hh) Tryd.own started (by kernel_rfl) Tryd.func6
    (ChangeSpec.witness_shaped (enc := enc) (C := Tryd.checked) (os := os) (X := fun w _ => laidMetH Tryd.prog Rows.fnExactParseMapRow.laid w) false (World.doorLaid Tryd.prog 400 os) #[.string ⟨#[]⟩] 8 rfl (World.shaped_of_RefB (by kernel_rfl) (by kernel_rfl)) (by kernel_rfl) (by kernel_rfl) (by kernel_rfl) (door_met os _)) ?_
  intro W base args ds gs before hval0 hW hL hsh
  have hval : ∀ (j : Nat) t v, Tryd.f6.params[j]? = some t → args[j]? = some v → Value.okWide Tryd.prog W .any base t v := hval0
  have hW' := hW
  obtain ⟨p, q, hA0, hV, rfl, hfz, hnd⟩ := hW
  have hA : DataW.TrodAll enc Tryd.prog W 0 (fun _ => true) true Tryd.f6.params.toList args.toList ds p := hA0
  rw [Tryd.params6] at hA hval
  obtain ⟨v0, d0, rfl, rfl, h0⟩ := trodAll_one hA
  obtain ⟨s0, rfl, bs0⟩ := open_text (hval 0 9 v0 rfl rfl) h0
  have hT := tab_of hL
  refine (walk s0 W hT.1 hT.2 (cut_of hsh)).mono fun e W' ⟨he, hb⟩ => ?_
  subst he
  exact ⟨_, rfl, law_close Tryd.laidOut (by kernel_rfl) (by kernel_rfl) Tryd.underlying4 rfl hW' (fun h => by rfl) hb⟩

theorem row_holds : Rows.FnExactParseMapSaid :=
  OpenClaim.holds_of_wide 6 Tryd.f6 rfl rfl rfl rfl rfl rfl rfl ⟨rfl, rfl, rfl, rfl, rfl⟩ rfl rfl rfl rfl rfl (by kernel_rfl) Tryd.func6 (by kernel_rfl)
    (of_decide_eq_true (by kernel_rfl)) (by unfold Func.isWrapper; first | (rw [if_pos (by decide +kernel)]; kernel_rfl) | (rw [if_neg (by decide +kernel)]; exact ⟨rfl, rfl⟩))
    (fun os started H enc _ => lifted os started H enc)

theorem proved : Rows.FnExactParseMapCardSaid :=
  Claim7.holds_tied_plain_at .later [] [.data, .data, .data, .sentinel, .sentinel] true Rows.fnExactParseMapCard.stood.harness true
    row_holds (fun _ h => by cases h) (by kernel_rfl) (fun _ h => by cases h) fnExactParseMap_row_tie rfl ⟨rfl, rfl⟩ (by kernel_rfl) rfl
    (fun f fn hf hfn => by
      obtain rfl : f = 6 := Option.some.inj ((show Tryd.prog.funcNamed "loop.example/g01003/laws.FnExactParseMap" = some 6 by kernel_rfl).symm.trans hf) |>.symm
      obtain rfl : fn = Tryd.f6 := (Option.some.inj (Tryd.func6.symm.trans hfn)).symm
      exact ⟨by kernel_rfl, fun j t ht => by
        rw [Tryd.params6] at ht
        have h3 : t = 9 := by
          rcases j with _ | j
          · simpa using ht.symm
          · simp at ht
        subst h3
        exact (show Tryd.prog.wantsStandIn 9 = false by kernel_rfl)⟩)
    (by kernel_rfl)

end Go.Proofs.YtmabngjmfjjogaaDoor.lawParseMap
