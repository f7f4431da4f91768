/- Proved: for all lists of named maps and all names, the program's RenameMap returns what the reference's returns, what it returns is held by nothing else, and the arguments read afterwards as they did; the library's tables are as its text lays them (the card ties them to this pruned copy of the project). -/
import Derived.Test.YtmabngjmfjjogaaDoorReS
import Derived.Test.YtmabngjmfjjogaaDoorLaws
import Derived.Test.YtmabngjmfjjogaaDoorCards
import Derived.Test.YtmabngjmfjjogaaDoorTie
import Derived.SevenTiedAt
import Derived.Lib.LaidTab
import Derived.LaidMore
import Derived.Stop.LaidErr
import Derived.Stop.Joined
import Derived.Shelf.Vars
import Derived.ProofKit
import Derived.Lay
namespace Go.Proofs.YtmabngjmfjjogaaDoor.lawRenameMap
open Go.Proofs.YtmabngjmfjjogaaDoor
open Go.ChangeShapes Go.WideShapes Go.ChangeAt Go.RowKit Go.Joins

section
variable {H : Type} {enc : TypeId × Value → H}
set_option maxRecDepth 100000 in
theorem open_text {W : World} {base b0 : Nat} {v : Value} {d : DataW H} {p : List MemPlace} (hv : Value.okWide Tryd.prog W .any b0 9 v) (h : DataW.Trod enc Tryd.prog W base (fun _ => true) true 9 v d p) :
    ∃ l : List UInt8, v = str l ∧ True := by
  obtain ⟨s, rfl, -, -, -⟩ := Go.ChangeMaps.open_string Tryd.underlying9 hv h
  obtain ⟨⟨l⟩⟩ := s
  exact ⟨l, rfl, trivial⟩
end

theorem mkK_bd (ns : List Nm) (k : Nat) : mkK k ns ≤ k + ns.length + 4 * totN ns := by
  unfold mkK totN
  induction ns with
  | nil => simp
  | cons n r ih =>
    simp only [List.map_cons, List.sum_cons, List.length_cons, szOf]
    omega
theorem mkK_few (m : List Nm) (hl : m.length ≤ 8) (hm : ∀ n ∈ m, n.2.length ≤ 1048576) : mkK 1 m ≤ 100000000 := by
  have key : ∀ L : List Nm, (∀ n ∈ L, n.2.length ≤ 1048576) → (L.map fun n => 1 + n.2.length * 4).sum ≤ L.length * 4194305 := by
    intro L
    induction L with
    | nil => intro _; simp
    | cons n r ih =>
      intro h
      have h1 := h n (List.mem_cons_self ..)
      have h2 := ih (fun x hx => h x (List.mem_cons_of_mem _ hx))
      simp only [List.map_cons, List.sum_cons, List.length_cons]
      omega
  have := key m hm
  unfold mkK
  omega
set_option maxRecDepth 100000 in
set_option maxHeartbeats 6400000 in
theorem walk (ns : List Nm) (v : Value) (old name : List UInt8) (w : World) (hv : RdE w v ns) (hnm : NmL ns) (hCt : CutW w) :
    Calls Tryd.prog 10 #[v, str old, str name] w fun e w' => e = .returned (.bool true) ∧ Below w.heap.size w w' := by
  by_cases htot : ns.length + totN ns ≤ 1048576
  rotate_left
  · by_cases hall : old.length ≤ 1048576 ∧ name.length ≤ 1048576
    · obtain ⟨lold, lname⟩ := hall
      have fold : ∀ W, (Builtin.len_ #[9] 3 #[str old]).run Tryd.prog W = .ok (.int .i64 old.length) W := fun W => str_len _ _ old W (by kernel_rfl)
      have cold : decide ((1048576 : Int) < old.length) = false := by simp; omega
      have fname : ∀ W, (Builtin.len_ #[9] 3 #[str name]).run Tryd.prog W = .ok (.int .i64 name.length) W := fun W => str_len _ _ name W (by kernel_rfl)
      have cname : decide ((1048576 : Int) < name.length) = false := by simp; omega
      go_enter Tryd.func10, Tryd.ntmps10
      go_wp2_with fail
      refine (szNamedS_is ns v 1048576 _ (by omega) (hv.keep (by go_grown)) hnm).mono ?_
      rintro e w0 ⟨r, rfl, hr, h1⟩
      have hB : Below w.heap.size w w0 := nextX (by go_grown) h1
      clear h1
      rcases hr with ⟨hle, rfl⟩ | ⟨hlt, rfl⟩
      · exact absurd hle htot
      · go_wp2_with fail
        go_ret
        exact ⟨rfl, hB⟩
    · have fold : ∀ W, (Builtin.len_ #[9] 3 #[str old]).run Tryd.prog W = .ok (.int .i64 old.length) W := fun W => str_len _ _ old W (by kernel_rfl)
      have fname : ∀ W, (Builtin.len_ #[9] 3 #[str name]).run Tryd.prog W = .ok (.int .i64 name.length) W := fun W => str_len _ _ name W (by kernel_rfl)
      by_cases h1 : old.length ≤ 1048576
      · have c1 : decide ((1048576 : Int) < old.length) = false := by simp; omega
        have c2 : decide ((1048576 : Int) < name.length) = true := by simp; omega
        go_enter Tryd.func10, Tryd.ntmps10
        go_wp2_with fail
        go_ret
        exact ⟨rfl, by go_grown⟩
      · have c1 : decide ((1048576 : Int) < old.length) = true := by simp; omega
        go_enter Tryd.func10, Tryd.ntmps10
        go_wp2_with fail
        go_ret
        exact ⟨rfl, by go_grown⟩
  have hm : ∀ n ∈ ns, n.2.length ≤ 1048576 := fun n hn => by have := szOf_le hn; unfold szOf at this; omega
  by_cases lold : old.length ≤ 1048576
  rotate_left
  · have flold : ∀ W, (Builtin.len_ #[9] 3 #[str old]).run Tryd.prog W = .ok (.int .i64 old.length) W := fun W => str_len _ _ old W (by kernel_rfl)
    have b : decide ((1048576 : Int) < old.length) = true := by simp; omega
    go_enter Tryd.func10, Tryd.ntmps10
    go_wp2_with fail
    go_ret
    exact ⟨rfl, by go_grown⟩
  have fold : ∀ W, (Builtin.len_ #[9] 3 #[str old]).run Tryd.prog W = .ok (.int .i64 old.length) W := fun W => str_len _ _ old W (by kernel_rfl)
  have cold : decide ((1048576 : Int) < old.length) = false := by simp; omega
  by_cases lname : name.length ≤ 1048576
  rotate_left
  · have flname : ∀ W, (Builtin.len_ #[9] 3 #[str name]).run Tryd.prog W = .ok (.int .i64 name.length) W := fun W => str_len _ _ name W (by kernel_rfl)
    have b : decide ((1048576 : Int) < name.length) = true := by simp; omega
    go_enter Tryd.func10, Tryd.ntmps10
    go_wp2_with fail
    go_ret
    exact ⟨rfl, by go_grown⟩
  have fname : ∀ W, (Builtin.len_ #[9] 3 #[str name]).run Tryd.prog W = .ok (.int .i64 name.length) W := fun W => str_len _ _ name W (by kernel_rfl)
  have cname : decide ((1048576 : Int) < name.length) = false := by simp; omega
  obtain ⟨m, t, hl⟩ : ∃ m t, renQ ns old name = (m, t) := ⟨_, _, rfl⟩
  have hml := renQ_len hl
  have hmm := renQ_maps hl hm
  have HL := Lib.hid hl
  clear hl
  go_enter Tryd.func10, Tryd.ntmps10
  go_wp2_with fail
  refine (szNamedS_is ns v 1048576 _ (by omega) (hv.keep (by go_grown)) hnm).mono ?_
  rintro e w0 ⟨r, rfl, hr, h1⟩
  have hB : Below w.heap.size w w0 := nextX (by go_grown) h1
  clear h1
  rcases hr with ⟨hle, rfl⟩ | ⟨hlt, rfl⟩
  rotate_left
  · go_wp2_with fail
    go_ret
    exact ⟨rfl, hB⟩
  have b0 : ¬ (1048576 : Int) - ((ns.length + totN ns : Nat) : Int) < 0 := by omega
  have b0' : decide ((1048576 : Int) - ((ns.length + totN ns : Nat) : Int) < 0) = false := by simpa using b0
  have hn : ns.length ≤ 1048576 := by omega
  have hkn := mkK_bd ns 1
  obtain ⟨r, hr⟩ : ∃ r : Int, r = (1048576 : Int) - ((ns.length + totN ns : Nat) : Int) := ⟨_, rfl⟩
  rw [show ((1048576 : Nat) : Int) - ((ns.length + totN ns : Nat) : Int) = r from hr.symm]
  rw [← hr] at b0 b0'
  have hK1 : 0 < 1 ∧ mkK 1 ns ≤ 100000000 := ⟨by omega, by omega⟩
  have hkm := mkK_few m hml hmm
  have hK2 : 0 < 1 ∧ mkK 1 m ≤ 100000000 := ⟨by omega, by omega⟩
  have hmn : m.length ≤ 1048576 := by omega
  obtain ⟨K1, hKe1⟩ : ∃ K, mkK 1 ns = K := ⟨_, rfl⟩
  obtain ⟨K2, hKe2⟩ : ∃ K, mkK 1 m = K := ⟨_, rfl⟩
  have pK1 : ¬ (K1 : Int) < 0 := by omega
  have pK2 : ¬ (K2 : Int) < 0 := by omega
  have HK1 := Lib.hid hKe1
  have HK2 := Lib.hid hKe2
  clear hr hle hkn hkm hKe1 hKe2
  go_wp2_with fail
  refine (toNamedS_any ns v _ (hv.keep (nextX hB (by go_grown))) hn hm).mono ?_
  rintro e w1 ⟨sr, rfl, sro, hb⟩
  have hX : Below w0.heap.size w0 w1 := nextX (by go_grown) hb
  have srR := Lib.hid sro.read
  replace hB := nextW hB hX
  clear hb hX sro
  go_wp2_with fail
  refine (sRenameMap_is ns sr old name m t HL.out _ (srR.out.keep (by go_grown)) hnm hn hm lname).mono ?_
  rintro e w2 ⟨sv, rfl, svo, hb⟩
  have hX : Below w1.heap.size w1 w2 := nextX (by go_grown) hb
  obtain ⟨Bsv, hBsv, lbsv, svx⟩ : ∃ B, w1.heap.size ≤ B ∧ B ≤ w2.heap.size ∧ OwN B w2 sv m := ⟨_, by go_size, hb.size, svo⟩
  have svb := svx.bnd
  obtain ⟨Esv, hEsv⟩ : ∃ E, w2.heap.size = E := ⟨_, rfl⟩
  rw [hEsv] at svb lbsv
  have hw_sv : w.heap.size ≤ Bsv := Nat.le_trans hB.size hBsv
  have zsv : Esv ≤ w2.heap.size := by rw [hEsv]; exact Nat.le_refl _
  replace hB := nextW hB hX
  replace svo := Lib.hid svb
  clear hb hX
  clear svx svb hEsv srR
  go_wp2_with fail
  refine (toNamedS_any ns v _ (hv.keep (nextX hB (by go_grown))) hn hm).mono ?_
  rintro e w3 ⟨xr, rfl, xro, hb⟩
  have hX : Below w2.heap.size w2 w3 := nextX (by go_grown) hb
  obtain ⟨Bxr, hBxr, lbxr, xrx⟩ : ∃ B, w2.heap.size ≤ B ∧ B ≤ w3.heap.size ∧ OwN B w3 xr ns := ⟨_, by go_size, hb.size, xro⟩
  have xrb := xrx.bnd
  obtain ⟨Exr, hExr⟩ : ∃ E, w3.heap.size = E := ⟨_, rfl⟩
  rw [hExr] at xrb lbxr
  have d_sv_xr : Esv ≤ Bxr := Nat.le_trans zsv hBxr
  have hw_xr : w.heap.size ≤ Bxr := Nat.le_trans hB.size hBxr
  replace zsv := Nat.le_trans zsv hX.size
  have zxr : Exr ≤ w3.heap.size := by rw [hExr]; exact Nat.le_refl _
  replace svo := Lib.hid (svo.out.keep hX)
  replace hB := nextW hB hX
  replace xro := Lib.hid xrb
  clear hb hX
  clear xrx xrb hExr
  go_wp2_with fail
  refine (iRenameMap_is ns xr old name m t HL.out _ (hCt.keep (nextX hB (by go_grown))) (xro.out.own.read.keep (by go_grown)) hnm hn hm lname).mono ?_
  rintro e w4 ⟨gv, rfl, gvo, hb⟩
  have hX : Below w3.heap.size w3 w4 := nextX (by go_grown) hb
  obtain ⟨Bgv, hBgv, lbgv, gvx⟩ : ∃ B, w3.heap.size ≤ B ∧ B ≤ w4.heap.size ∧ OwN B w4 gv m := ⟨_, by go_size, hb.size, gvo⟩
  have gvb := gvx.bnd
  obtain ⟨Egv, hEgv⟩ : ∃ E, w4.heap.size = E := ⟨_, rfl⟩
  rw [hEgv] at gvb lbgv
  have d_sv_gv : Esv ≤ Bgv := Nat.le_trans zsv hBgv
  have d_xr_gv : Exr ≤ Bgv := Nat.le_trans zxr hBgv
  have hw_gv : w.heap.size ≤ Bgv := Nat.le_trans hB.size hBgv
  replace zsv := Nat.le_trans zsv hX.size
  replace zxr := Nat.le_trans zxr hX.size
  have zgv : Egv ≤ w4.heap.size := by rw [hEgv]; exact Nat.le_refl _
  replace svo := Lib.hid (svo.out.keep hX)
  replace xro := Lib.hid (xro.out.keep hX)
  replace hB := nextW hB hX
  replace gvo := Lib.hid gvb
  clear hb hX
  clear gvx gvb hEgv
  go_wp2_with fail
  refine (eqNamedS_same m gv sv _ (gvo.out.own.read.keep (by go_grown)) (svo.out.own.read.keep (by go_grown))).mono ?_
  rintro e w5 ⟨rfl, hb⟩
  have hX : Below w4.heap.size w4 w5 := nextX (by go_grown) hb
  replace zsv := Nat.le_trans zsv hX.size
  replace zxr := Nat.le_trans zxr hX.size
  replace zgv := Nat.le_trans zgv hX.size
  replace svo := Lib.hid (svo.out.keep hX)
  replace xro := Lib.hid (xro.out.keep hX)
  replace gvo := Lib.hid (gvo.out.keep hX)
  replace hB := nextW hB hX
  clear hb hX
  go_wp2_with fail
  refine (toNamedS_any ns v _ (hv.keep (nextX hB (by go_grown))) hn hm).mono ?_
  rintro e w6 ⟨ra, rfl, rao, hb⟩
  have hX : Below w5.heap.size w5 w6 := nextX (by go_grown) hb
  replace zsv := Nat.le_trans zsv hX.size
  replace zxr := Nat.le_trans zxr hX.size
  replace zgv := Nat.le_trans zgv hX.size
  have raR := Lib.hid (rao.read)
  replace svo := Lib.hid (svo.out.keep hX)
  replace xro := Lib.hid (xro.out.keep hX)
  replace gvo := Lib.hid (gvo.out.keep hX)
  replace hB := nextW hB hX
  clear hb hX rao
  go_wp2_with fail
  refine (eqNamedS_same ns xr ra _ (xro.out.own.read.keep (by go_grown)) (raR.out.keep (by go_grown))).mono ?_
  rintro e w7 ⟨rfl, hb⟩
  have hX : Below w6.heap.size w6 w7 := nextX (by go_grown) hb
  replace zsv := Nat.le_trans zsv hX.size
  replace zxr := Nat.le_trans zxr hX.size
  replace zgv := Nat.le_trans zgv hX.size
  replace svo := Lib.hid (svo.out.keep hX)
  replace xro := Lib.hid (xro.out.keep hX)
  replace gvo := Lib.hid (gvo.out.keep hX)
  replace hB := nextW hB hX
  clear hb hX
  have lzxr : Bxr ≤ w7.heap.size := Nat.le_trans lbxr zxr
  go_wp2_with fail
  refine (markNamedS_is Bxr Exr 1 ns xr _ (xro.out.keep (by go_grown)) hK1 hn hm (Nat.le_trans lzxr (by go_size))).mono ?_
  rintro e w8 ⟨he, hmxr, hr⟩
  have hR : ButR Bxr Exr w7 w8 := (ButR.of_below (by go_grown)).trans hr
  replace svo := Lib.hid (svo.out.keepR hR (.inl d_sv_xr))
  replace gvo := Lib.hid (gvo.out.keepR hR (.inr d_xr_gv))
  replace zsv := Nat.le_trans zsv hR.size
  replace zxr := Nat.le_trans zxr hR.size
  replace zgv := Nat.le_trans zgv hR.size
  replace hB := hR.keepB hB hw_xr
  replace xro := Lib.hid hmxr
  clear hr hR hmxr
  rw [HK1.out] at he
  subst he
  go_wp2_with fail
  refine (eqNamedS_same m gv sv _ (gvo.out.own.read.keep (by go_grown)) (svo.out.own.read.keep (by go_grown))).mono ?_
  rintro e w9 ⟨rfl, hb⟩
  have hX : Below w8.heap.size w8 w9 := nextX (by go_grown) hb
  replace zsv := Nat.le_trans zsv hX.size
  replace zxr := Nat.le_trans zxr hX.size
  replace zgv := Nat.le_trans zgv hX.size
  replace svo := Lib.hid (svo.out.keep hX)
  replace xro := Lib.hid (xro.out.keep hX)
  replace gvo := Lib.hid (gvo.out.keep hX)
  replace hB := nextW hB hX
  clear hb hX
  have lzgv : Bgv ≤ w9.heap.size := Nat.le_trans lbgv zgv
  go_wp2_with fail
  refine (markNamedS_is Bgv Egv 1 m gv _ (gvo.out.keep (by go_grown)) hK2 hmn hmm (Nat.le_trans lzgv (by go_size))).mono ?_
  rintro e w10 ⟨he, hmgv, hr⟩
  have hR : ButR Bgv Egv w9 w10 := (ButR.of_below (by go_grown)).trans hr
  replace svo := Lib.hid (svo.out.keepR hR (.inl d_sv_gv))
  replace xro := Lib.hid (xro.out.keepR hR (.inl d_xr_gv))
  replace zsv := Nat.le_trans zsv hR.size
  replace zxr := Nat.le_trans zxr hR.size
  replace zgv := Nat.le_trans zgv hR.size
  replace hB := hR.keepB hB hw_gv
  replace gvo := Lib.hid hmgv
  clear hr hR hmgv
  rw [HK2.out] at he
  subst he
  go_wp2_with fail
  refine (heldNamedS_is Bgv 1 m gv _ (gvo.out.own.keep (by go_grown)) hK2 hmn hmm).mono ?_
  rintro e w11 ⟨he, hb⟩
  have hX : Below w10.heap.size w10 w11 := nextX (by go_grown) hb
  rw [HK2.out] at he
  subst he
  replace zsv := Nat.le_trans zsv hX.size
  replace zxr := Nat.le_trans zxr hX.size
  replace zgv := Nat.le_trans zgv hX.size
  replace svo := Lib.hid (svo.out.keep hX)
  replace xro := Lib.hid (xro.out.keep hX)
  replace gvo := Lib.hid (gvo.out.keep hX)
  replace hB := nextW hB hX
  clear hb hX
  go_wp2_with fail
  refine (toNamedS_any ns v _ (hv.keep (nextX hB (by go_grown))) hn hm).mono ?_
  rintro e w12 ⟨hr, rfl, hro, hb⟩
  have hX : Below w11.heap.size w11 w12 := nextX (by go_grown) hb
  have hrR := Lib.hid hro.read
  replace zsv := Nat.le_trans zsv hX.size
  replace zxr := Nat.le_trans zxr hX.size
  replace zgv := Nat.le_trans zgv hX.size
  replace svo := Lib.hid (svo.out.keep hX)
  replace xro := Lib.hid (xro.out.keep hX)
  replace gvo := Lib.hid (gvo.out.keep hX)
  replace hB := nextW hB hX
  clear hb hX hro
  go_wp2_with fail
  refine (iRenameMap_is ns hr old name m t HL.out _ (hCt.keep (nextX hB (by go_grown))) (hrR.out.keep (by go_grown)) hnm hn hm lname).mono ?_
  rintro e w13 ⟨hv2, rfl, hv2o, hb⟩
  have hX : Below w12.heap.size w12 w13 := nextX (by go_grown) hb
  obtain ⟨Bhv2, hBhv2, lbhv2, hv2x⟩ : ∃ B, w12.heap.size ≤ B ∧ B ≤ w13.heap.size ∧ OwN B w13 hv2 m := ⟨_, by go_size, hb.size, hv2o⟩
  have hv2b := hv2x.bnd
  obtain ⟨Ehv2, hEhv2⟩ : ∃ E, w13.heap.size = E := ⟨_, rfl⟩
  rw [hEhv2] at hv2b lbhv2
  have d_sv_hv2 : Esv ≤ Bhv2 := Nat.le_trans zsv hBhv2
  have d_xr_hv2 : Exr ≤ Bhv2 := Nat.le_trans zxr hBhv2
  have d_gv_hv2 : Egv ≤ Bhv2 := Nat.le_trans zgv hBhv2
  have hw_hv2 : w.heap.size ≤ Bhv2 := Nat.le_trans hB.size hBhv2
  replace zsv := Nat.le_trans zsv hX.size
  replace zxr := Nat.le_trans zxr hX.size
  replace zgv := Nat.le_trans zgv hX.size
  have zhv2 : Ehv2 ≤ w13.heap.size := by rw [hEhv2]; exact Nat.le_refl _
  replace svo := Lib.hid (svo.out.keep hX)
  replace xro := Lib.hid (xro.out.keep hX)
  replace gvo := Lib.hid (gvo.out.keep hX)
  replace hB := nextW hB hX
  replace hv2o := Lib.hid hv2b
  clear hb hX
  clear hv2x hv2b hEhv2
  go_wp2_with fail
  refine (eqNamedS_same m hv2 sv _ (hv2o.out.own.read.keep (by go_grown)) (svo.out.own.read.keep (by go_grown))).mono ?_
  rintro e w14 ⟨rfl, hb⟩
  have hX : Below w13.heap.size w13 w14 := nextX (by go_grown) hb
  replace zsv := Nat.le_trans zsv hX.size
  replace zxr := Nat.le_trans zxr hX.size
  replace zgv := Nat.le_trans zgv hX.size
  replace zhv2 := Nat.le_trans zhv2 hX.size
  replace svo := Lib.hid (svo.out.keep hX)
  replace xro := Lib.hid (xro.out.keep hX)
  replace gvo := Lib.hid (gvo.out.keep hX)
  replace hv2o := Lib.hid (hv2o.out.keep hX)
  replace hB := nextW hB hX
  clear hb hX
  go_wp2_with fail
  refine (heldNamedS_is Bgv 1 m gv _ (gvo.out.own.keep (by go_grown)) hK2 hmn hmm).mono ?_
  rintro e w15 ⟨he, hb⟩
  have hX : Below w14.heap.size w14 w15 := nextX (by go_grown) hb
  rw [HK2.out] at he
  subst he
  replace zsv := Nat.le_trans zsv hX.size
  replace zxr := Nat.le_trans zxr hX.size
  replace zgv := Nat.le_trans zgv hX.size
  replace zhv2 := Nat.le_trans zhv2 hX.size
  replace svo := Lib.hid (svo.out.keep hX)
  replace xro := Lib.hid (xro.out.keep hX)
  replace gvo := Lib.hid (gvo.out.keep hX)
  replace hv2o := Lib.hid (hv2o.out.keep hX)
  replace hB := nextW hB hX
  clear hb hX
  go_wp2_with fail
  go_ret
  exact ⟨rfl, hB⟩
theorem cut_of {W : World} (h : W.ShapedOpen Tryd.prog) : CutW W :=
  cell_of_shapedOpen_int (t := 3) (zero := #[.int .i64 0]) h (of_decide_eq_true (by kernel_rfl)) (by kernel_rfl) rfl (by kernel_rfl) (by kernel_rfl) (by kernel_rfl)

theorem wrap_shaped {H : Type} {enc : TypeId × Value → H} {a : Assume} {C : Checked} {os : Os} {f : FuncId} {fn : Func} {s : ChangeSpec} {conds : List PathCond} {apart fresh handsOn again : Bool} {X : World → Array Value → Prop}
    (hX : ∀ (w w' : World) (args : Array Value), w.heap = w'.heap → X w args → X w' args)
    (own : ownKnob C.prog.godebug = none) (started : os.Started) (noInit : C.prog.inits.idxOf? f = none) (hfn : C.prog.funcs[f]? = some fn)
    (witness : ∃ (w : World) (tape : Tape) (i : Input), w.os = os ∧ (w.forCall tape i).Shaped C.prog ∧ i.vars = [] ∧ Input.okWide C.prog (w.forCall tape i) .any w.heap.size f i ∧
      ((s.pre enc C.prog fn conds apart (w.forCall tape i).memory i.args ∧ X (w.forCall tape i).memory i.args) ∧ sizedMet enc C.prog fn (OpenSpec.ofChange s) apart (w.forCall tape i).memory i.args) ∧ a.holds C.prog (lone (Frame.enter C.prog f i.args .normal) [] (w.forCall tape i)))
    (contract : ∀ (W : World) (base : Nat) (args : Array Value) (ds gs : List (DataW H)) (before : List MemPlace),
      (∀ (j : Nat) t v, fn.params[j]? = some t → args[j]? = some v → Value.okWide C.prog W .any base t v) →
      DataW.Whole enc C.prog fn.params.toList s.vars apart W args.toList ds gs before → X W args → W.ShapedOpen C.prog →
      Calls C.prog f args W fun e W' => ∃ v, e = .returned v ∧ s.post enc C.prog fn apart fresh handsOn again W args v W') :
    ReturnsInHanded a C os f .any (fun w args => (s.pre enc C.prog fn conds apart w args ∧ X w args) ∧ sizedMet enc C.prog fn (OpenSpec.ofChange s) apart w args) (s.post enc C.prog fn apart fresh handsOn again) := by
  refine returnsInHanded_of_calls own started noInit witness ?_
  intro w tape i _ hsh _ hok hpre _
  obtain ⟨_, _, _, fn', hfn', _, _, _, _, hval⟩ := hok
  have e : fn' = fn := Option.some.inj (hfn'.symm.trans hfn)
  subst e
  obtain ⟨⟨⟨ds, gs, before, hw, _⟩, hx⟩, _⟩ := hpre
  have hw' := DataW.Whole.of_heap (w' := w.forCall tape i) (by rfl) hw
  refine (contract (w.forCall tape i) w.heap.size i.args ds gs before hval hw' (hX _ _ _ (by rfl) hx) hsh).mono fun e W' ⟨v, he, hp⟩ => ?_
  subst he
  exact ChangeSpec.post_blind hp

/-- The door's own heap meets the condition. -/
theorem door_met (os : Os) (args : Array Value) : laidMetH Tryd.prog Rows.fnExactRenameMapRow.laid ((World.laidAll Tryd.prog os Rows.fnExactRenameMapRow.laid).forCall (fun _ _ => 0) ⟨#[], args, []⟩).memory := by rw [MakeChecks.laidMetH_plain _ _ _ (by kernel_rfl)]; exact laidMet_laidAll _ (by kernel_rfl) (by kernel_rfl)

set_option maxRecDepth 100000 in
theorem lifted (os : Os) (started : os.Started) (H : Type) (enc : TypeId × Value → H) :
    ReturnsInHanded {} Tryd.checked os 10 .any (fun w args => (Rows.fnExactRenameMapSpec.pre enc Tryd.prog Tryd.f10 [] false w args ∧ laidMetH Tryd.prog Rows.fnExactRenameMapRow.laid w) ∧ sizedMet enc Tryd.prog Tryd.f10 (OpenSpec.ofChange Rows.fnExactRenameMapSpec) false w args)
      (Rows.fnExactRenameMapSpec.post enc Tryd.prog Tryd.f10 false true false false) := by
  refine wrap_shaped (C := Tryd.checked) (X := fun w _ => laidMetH Tryd.prog Rows.fnExactRenameMapRow.laid w) (fun _ _ _ hh h => h.of_heap hh) Tryd.own started (by kernel_rfl) Tryd.func10
    (ChangeSpec.witness_shaped (enc := enc) (C := Tryd.checked) (os := os) (X := fun w _ => laidMetH Tryd.prog Rows.fnExactRenameMapRow.laid w) false (World.laidAll Tryd.prog os Rows.fnExactRenameMapRow.laid) #[.slice none 0 0, .string ⟨#[]⟩, .string ⟨#[]⟩] 8 (World.laidAll_os _ _ _) (World.shaped_of_ZipB (by kernel_rfl) (by kernel_rfl)) (by kernel_rfl) (by kernel_rfl) (by kernel_rfl) (door_met os _)) ?_
  intro W base args ds gs before hval0 hW hL hsh
  have hval : ∀ (j : Nat) t v, Tryd.f10.params[j]? = some t → args[j]? = some v → Value.okWide Tryd.prog W .any base t v := hval0
  have hW' := hW
  obtain ⟨p, q, hA0, hV, rfl, hfz, hnd⟩ := hW
  have hA : DataW.TrodAll enc Tryd.prog W 0 (fun _ => true) true Tryd.f10.params.toList args.toList ds p := hA0
  rw [Tryd.params10] at hA hval
  obtain ⟨v0, v1, v2, d0, d1, d2, p0, p1, p2, rfl, rfl, rfl, h0, h1, h2⟩ := trodAll_three hA
  obtain ⟨ns0, hp0, hl0⟩ := open_named (hval 0 43 v0 rfl rfl) h0
  obtain ⟨s1, rfl, bs1⟩ := open_text (hval 1 9 v1 rfl rfl) h1
  obtain ⟨s2, rfl, bs2⟩ := open_text (hval 2 9 v2 rfl rfl) h2
  refine (walk ns0 _ s1 s2 W hp0 hl0 (cut_of hsh)).mono fun e W' ⟨he, hb⟩ => ?_
  subst he
  exact ⟨_, rfl, law_close Tryd.laidOut (by kernel_rfl) (by kernel_rfl) Tryd.underlying4 rfl hW' (fun h => by rfl) hb⟩

theorem row_holds : Rows.FnExactRenameMapSaid :=
  OpenClaim.holds_of_wide 10 Tryd.f10 rfl rfl rfl rfl rfl rfl rfl ⟨rfl, rfl, rfl, rfl, rfl⟩ rfl rfl rfl rfl rfl (by kernel_rfl) Tryd.func10 (by kernel_rfl)
    (of_decide_eq_true (by kernel_rfl)) (by unfold Func.isWrapper; first | (rw [if_pos (by decide +kernel)]; kernel_rfl) | (rw [if_neg (by decide +kernel)]; exact ⟨rfl, rfl⟩))
    (fun os started H enc _ => lifted os started H enc)

theorem proved : Rows.FnExactRenameMapCardSaid :=
  Claim7.holds_tied_plain_at .later [] [.data, .pinned] true Rows.fnExactRenameMapCard.stood.harness true
    row_holds (fun _ h => by cases h) (by kernel_rfl) (fun _ h => by cases h) fnExactRenameMap_row_tie rfl ⟨rfl, rfl⟩ (by kernel_rfl) rfl
    (fun f fn hf hfn => by
      obtain rfl : f = 10 := Option.some.inj ((show Tryd.prog.funcNamed "loop.example/g01003/laws.FnExactRenameMap" = some 10 by kernel_rfl).symm.trans hf) |>.symm
      obtain rfl : fn = Tryd.f10 := (Option.some.inj (Tryd.func10.symm.trans hfn)).symm
      exact ⟨by kernel_rfl, fun j t ht => by
        rw [Tryd.params10] at ht
        have h3 : t = 43 ∨ t = 9 := by
          rcases j with _ | _ | _ | j
          · left; simpa using ht.symm
          · right; simpa using ht.symm
          · right; simpa using ht.symm
          · simp at ht
        rcases h3 with rfl | rfl
        · exact (show Tryd.prog.wantsStandIn 43 = false by kernel_rfl)
        · exact (show Tryd.prog.wantsStandIn 9 = false by kernel_rfl)⟩)
    (by kernel_rfl)

end Go.Proofs.YtmabngjmfjjogaaDoor.lawRenameMap
