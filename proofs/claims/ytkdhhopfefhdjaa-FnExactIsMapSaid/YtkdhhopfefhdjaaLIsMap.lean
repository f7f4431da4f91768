/- Proved: for every list of points, the program's IsMap returns what the reference's returns, and the argument reads afterwards as it did. No condition. -/
import Derived.Test.YtkdhhopfefhdjaaHead
import Derived.Test.YtkdhhopfefhdjaaImGood
import Derived.Test.YtkdhhopfefhdjaaIsMap2
import Derived.Test.YtkdhhopfefhdjaaEqP
namespace Go.Proofs.Ytkdhhopfefhdjaa.lawIsMap
open Go.Proofs.Ytkdhhopfefhdjaa
open Go.ChangeShapes Go.WideShapes Go.ChangeAt Go.RowKit Go.Joins

theorem specIsMap_is (ps : List Pt) (v : Value) (t : Bool) (w : World) (hv : RdP w v ps) (hn : ps.length ≤ 1048576) (ht : okMap ps = t) :
    Calls Try.prog 23 #[v] w fun e w' => e = .returned (.bool t) ∧ Below w.heap.size w w' := by
  go_enter Try.func23, Try.ntmps23
  go_wp2_with fail
  refine (imGood_is ps v t _ hv hn ht).mono ?_
  rintro e w1 ⟨rfl, hb⟩
  go_wp2_with fail
  go_ret
  exact ⟨rfl, hb⟩

theorem implIsMap_is (ps : List Pt) (v : Value) (t : Bool) (w : World) (hv : RdP w v ps) (hn : ps.length ≤ 1048576) (ht : okMap ps = t) :
    Calls Try.prog 25 #[v] w fun e w' => e = .returned (.bool t) ∧ Below w.heap.size w w' := by
  go_enter Try.func25, Try.ntmps25
  go_wp2_with fail
  refine (isMap_is ps v t _ hv hn ht).mono ?_
  rintro e w1 ⟨rfl, hb⟩
  go_wp2_with fail
  go_ret
  exact ⟨rfl, hb⟩

theorem walk (ps : List Pt) (v : Value) (w : World) (hv : RdP w v ps) :
    Calls Try.prog 3 #[v] w fun e w' => e = .returned (.bool true) ∧ Below w.heap.size w w' := by
  by_cases hn : ps.length ≤ 1048576
  · go_enter Try.func3, Try.ntmps3
    go_wp2_with fail
    refine (szPointS_fits ps v 1048576 _ hv (by omega) (by omega)).mono ?_
    rintro e w0 ⟨rfl, rfl⟩
    go_wp2_with fail
    refine (toPointS_any ps v _ hv hn).mono ?_
    rintro e w1 ⟨r1, rfl, o1, hb⟩
    go_wp2_with fail
    obtain ⟨t, ht⟩ : ∃ t, okMap ps = t := ⟨_, rfl⟩
    refine (specIsMap_is ps r1 t _ o1.read hn ht).mono ?_
    rintro e w2 ⟨rfl, hb2⟩
    replace hb := nextW hb hb2
    clear hb2 o1
    go_wp2_with fail
    refine (toPointS_any ps v _ (hv.keep hb) hn).mono ?_
    rintro e w3 ⟨r3, rfl, o3, hb2⟩
    replace hb := nextW hb hb2
    clear hb2
    go_wp2_with fail
    refine (implIsMap_is ps r3 t _ o3.read hn ht).mono ?_
    rintro e w4 ⟨rfl, hb2⟩
    replace o3 := o3.keep hb2
    replace hb := nextW hb hb2
    clear hb2
    go_wp2_with fail
    refine (toPointS_any ps v _ (hv.keep hb) hn).mono ?_
    rintro e w5 ⟨r5, rfl, o5, hb2⟩
    replace o3 := o3.keep hb2
    replace hb := nextW hb hb2
    clear hb2
    go_wp2_with fail
    refine (eqPointS_same ps r3 r5 _ o3.read o5.read).mono ?_
    rintro e w6 ⟨rfl, hb2⟩
    replace hb := nextW hb hb2
    clear hb2
    go_wp2_with fail
    go_ret
    exact ⟨rfl, hb⟩
  · go_enter Try.func3, Try.ntmps3
    go_wp2_with fail
    refine (szPointS_over ps v 1048576 _ hv (by omega) (by omega) (by omega)).mono ?_
    rintro e w0 ⟨rfl, rfl⟩
    go_wp2_with fail
    go_ret
    exact ⟨rfl, Below.refl _ _⟩

set_option maxRecDepth 100000 in
theorem lifted (os : Os) (started : os.Started) (H : Type) (enc : TypeId × Value → H) :
    ReturnsInHanded {} Try.checked os 3 .any (Rows.fnExactIsMapSpec.pre6 enc Try.prog Try.f3 Rows.fnExactIsMapRow.domain false) (Rows.fnExactIsMapSpec.post enc Try.prog Try.f3 false true false false) := by
  refine returnsInHanded_of_change (C := Try.checked) Try.own started (by kernel_rfl) Try.func3
    (ChangeSpec.witness6 (enc := enc) (C := Try.checked) false ⟨#[], #[.slice none 0 0], []⟩ 8 (by kernel_rfl) (by kernel_rfl) (by kernel_rfl) (by kernel_rfl)) ?_
  intro W base args ds gs before hval0 hW hcnd _
  have hval : ∀ (j : Nat) t v, Try.f3.params[j]? = some t → args[j]? = some v → Value.okWide Try.prog W .any base t v := hval0
  have hW' := hW
  obtain ⟨p, q, hA0, hV, rfl, hfz, hnd⟩ := hW
  have hA : DataW.TrodAll enc Try.prog W 0 (fun _ => true) true Try.f3.params.toList args.toList ds p := hA0
  rw [Try.params3] at hA hval
  obtain ⟨v0, d0, rfl, rfl, h0⟩ := trodAll_one hA
  obtain ⟨ps0, hp0⟩ := open_pts (hval 0 22 v0 rfl rfl) h0
  refine (walk ps0 v0 W hp0).mono fun e W' ⟨he, hb⟩ => ?_
  subst he
  exact ⟨_, rfl, law_close Try.laidOut (by kernel_rfl) (by kernel_rfl) Try.underlying4 rfl hW' (fun h => by rfl) hb⟩

set_option maxHeartbeats 800000 in
theorem joined : joinedFacts Try.pinned.checked.prog 3 Try.f3 Rows.fnExactIsMapSpec Rows.fnExactIsMapRow = true := by
  delta joinedFacts
  with_reducible repeat' apply and_yes
  all_goals first
    | (with_reducible exact headEnter)
    | (with_reducible refine beq_of headFinal ?_; as_aux_lemma => kernel_rfl)
    | (with_reducible refine beq_of' headMake ?_; as_aux_lemma => kernel_rfl)
    | (as_aux_lemma => kernel_rfl)

theorem proved : Rows.FnExactIsMapSaid :=
  OpenClaim.holds_of_wide 3 Try.f3 rfl rfl rfl rfl rfl rfl rfl ⟨rfl, rfl, rfl, rfl, rfl⟩ rfl rfl rfl rfl rfl (by kernel_rfl) Try.func3 joined
    (of_decide_eq_true (by kernel_rfl)) (by unfold Func.isWrapper; first | (rw [if_pos (by decide +kernel)]; kernel_rfl) | (rw [if_neg (by decide +kernel)]; exact ⟨rfl, rfl⟩))
    (fun os started H enc _ => lifted os started H enc)

end Go.Proofs.Ytkdhhopfefhdjaa.lawIsMap
