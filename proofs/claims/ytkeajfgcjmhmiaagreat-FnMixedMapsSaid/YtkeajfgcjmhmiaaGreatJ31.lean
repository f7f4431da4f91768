/- The reference's coCompose and ComposeMaps. -/
import Derived.Test.YtkeajfgcjmhmiaaGreatJ21
import Derived.Test.YtkeajfgcjmhmiaaGreatJ26
import Derived.Test.YtkeajfgcjmhmiaaGreatJ27
import Derived.Test.YtkeajfgcjmhmiaaGreatJ29
namespace Go.Proofs.YtkeajfgcjmhmiaaGreat
open Go.RowKit

theorem fold_next {l s : List Q} {j : Nat} {x : Q} (h : l[j]? = some x) : (l.take (j + 1)).foldl (fun l x => insQ x l) s = insQ x ((l.take j).foldl (fun l x => insQ x l) s) := by
  rw [take_snoc_get h, List.foldl_append]; rfl
theorem fold_ok {l s : List Q} (hl : OkL l) (hs : OkL s) (j : Nat) : OkL ((l.take j).foldl (fun l x => insQ x l) s) := fun x hx => by
  rw [foldQ_mem] at hx
  exact hx.elim (hs x) (fun h => hl x (List.mem_of_mem_take h))
theorem fold_len (l s : List Q) (j : Nat) : ((l.take j).foldl (fun l x => insQ x l) s).length ≤ s.length + l.length := by
  have h := foldQ_len (l.take j) s
  have h2 : (l.take j).length ≤ l.length := by rw [List.length_take]; omega
  omega
theorem cutBad_stop {g : List Pt} {ys : List Q} {y : Q} (h : y ∈ ys) (hb : befOk y g = false) : cutOk g ys = false := by
  unfold cutOk
  rw [List.all_eq_false]
  exact ⟨y, h, by rw [hb]; simp⟩
theorem comQ_stop1 {f g : List Pt} (h : cutOk g (f.map (·.1)) = false) : comQ f g = ([], false) := comQ_no (by rw [h]; rfl)
theorem comQ_stop2 {f g : List Pt} {x : Q} (hx : x ∈ comXs f g) (h : comT f g x = false) : comQ f g = ([], false) := comQ_no (by
  have : (comXs f g).all (comT f g) = false := List.all_eq_false.2 ⟨x, hx, by rw [h]; simp⟩
  rw [this, Bool.and_false])
theorem comXs_same {f g : List Pt} (mf : okMap f = true) (mg : okMap g = true) (hb : cutBad g (f.map (·.1)) f.length = false) : cutS g (f.map (·.1)) f.length = comXs f g := by
  rw [cut_same mg (xs_unit mf).ok hb]
  unfold comXs cutAll
  rw [List.length_map]
theorem cutOk_of {f g : List Pt} (hb : cutBad g (f.map (·.1)) f.length = false) : cutOk g (f.map (·.1)) = true := by
  have := cutBad_end g (f.map (·.1))
  rw [List.length_map, hb] at this
  cases h : cutOk g (f.map (·.1))
  · rw [h] at this; simp at this
  · rfl
theorem cs_len (f g : List Pt) (k : Nat) (h1 : f.length ≤ 12) (h2 : g.length ≤ 12) : (cutS g (f.map (·.1)) k).length ≤ 444 := by
  have h := cutS_len g (f.map (·.1)) k
  rw [List.length_map] at h
  have h4 : 3 * g.length * f.length ≤ 36 * 12 := Nat.mul_le_mul (by omega) h1
  omega
theorem xs_at2 {f : List Pt} {k : Nat} {p : Pt} (h : f[k]? = some p) : (f.map (·.1))[k]? = some p.1 := by
  rw [List.getElem?_map, h]; rfl
theorem comL_get {f g : List Pt} {k : Nat} {x : Q} (h : (comXs f g)[k]? = some x) : (comL f g).take (k + 1) = (comL f g).take k ++ [(x, comV f g x)] := by
  unfold comL ptsQ
  exact map_take_snoc (fun x => (x, comV f g x)) h

def RelCsA (f g : List Pt) (h : Nat) (W0 : World) (xs i : Value) (wr : World) : Prop :=
  ∃ k : Nat, k ≤ f.length ∧ i = .int .i64 k ∧ OwQ h 31 wr xs (cutS g (f.map (·.1)) k) ∧ cutBad g (f.map (·.1)) k = false ∧ Below W0.heap.size W0 wr
def RelCsB (l s : List Q) (h : Nat) (W0 : World) (xs i : Value) (wr : World) : Prop :=
  ∃ j : Nat, j ≤ l.length ∧ i = .int .i64 j ∧ OwQ h 31 wr xs ((l.take j).foldl (fun l x => insQ x l) s) ∧ Below W0.heap.size W0 wr
def RelCsC (f g : List Pt) (W0 : World) (out i : Value) (wr : World) : Prop :=
  ∃ k : Nat, k ≤ (comXs f g).length ∧ i = .int .i64 k ∧ OwP W0.heap.size 51 wr out ((comL f g).take k) ∧ ((comXs f g).take k).all (comT f g) = true ∧ Below W0.heap.size W0 wr

set_option maxRecDepth 100000 in
set_option maxHeartbeats 12800000 in
theorem coCompose_is (f g : List Pt) (vf vg : Value) (m : List Pt) (t : Bool) (hl : comQ f g = (m, t)) (w : World) (hf : RdP w vf f) (hg : RdP w vg g) (mf : okMap f = true) (mg : okMap g = true) :
    Calls Tryz.prog 70 #[vf, vg] w (RetPB w m t) := by
  have HF := Lib.hid hf
  have HG := Lib.hid hg
  have HL := Lib.hid hl
  have HMf := Lib.hid mf
  have HMg := Lib.hid mg
  have l1 := okMap_len mf
  have l2 := okMap_len mg
  have HYs := Lib.hid (show OkL (f.map (·.1)) from (xs_unit mf).ok)
  have HLe := Lib.hid (fun k => cs_len f g k l1.2 l2.2)
  have HJ := Lib.hid (comL_joined mf mg)
  have hxl := comXs_len mf mg
  obtain ⟨A1, c1, rfl, hl1, hm1, hcell⟩ := hf
  unfold maxLen at hm1
  obtain ⟨gb, o, rfl, hgb, hcc⟩ := hcell (okMap_ne mf)
  have HC := Lib.hid hcc
  clear hl mf mg hcell hcc hg
  go_enter Tryz.func70, Tryz.ntmps70
  go_wp2_with fail
  refine (coXs_any g _ _ (HG.out.keep (by go_grown)) (by omega)).mono ?_
  rintro e w2 ⟨r1, rfl, os1, hb⟩
  have hB : Below w.heap.size w w2 := hb
  have HO2 := Lib.hid (show OwQ w.heap.size 31 w2 r1 (cutS g (f.map (·.1)) 0) by rw [cutS_zero]; exact os1)
  clear os1 hb
  go_wp2_with fail
  go_name_world W0 hW
  have hX0 : Below w2.heap.size w2 W0 := by rw [← hW]; go_grown
  have hB0 := nextX hB hX0
  have HO0 := Lib.hid (HO2.out.keep hX0)
  have zw : w.heap.size ≤ W0.heap.size := hB0.size
  clear hW hB HO2 hX0
  go_loopw [6, 24] (fun xs i wr => RelCsA f g w.heap.size W0 xs i wr) (fun _ i _ => f.length - (intOf i).toNat)
  case atStart => exact ⟨0, Nat.zero_le _, rfl, HO0.out, cutBad_zero _ _, Below.refl _ _⟩
  case round =>
    obtain ⟨k, hk2, rfl, hown, hcb, hb⟩ := hrel
    have HO := Lib.hid hown
    have HCb := Lib.hid hcb
    have hBr := nextW hB0 hb
    have hzr : w.heap.size ≤ wr.heap.size := hBr.size
    clear hown hcb
    by_cases hlt : k < f.length
    · have hx := List.getElem?_eq_getElem hlt
      generalize f[k] = p at *
      obtain ⟨c00, c01, c02, c03⟩ := HC.out k _ hx
      have hy := xs_at2 hx
      obtain ⟨⟨p1, p2⟩, p3, p4⟩ := p
      have HLn := Lib.hid (cutS_next (g := g) hy)
      have HBn := Lib.hid (cutBad_next (g := g) hy)
      have HMem := Lib.hid (List.mem_of_getElem? hy)
      have HOy := Lib.hid (HYs.out _ (List.mem_of_getElem? hy))
      replace c00 := cellB hBr c00
      replace c01 := cellB hBr c01
      replace c02 := cellB hBr c02
      replace c03 := cellB hBr c03
      obtain ⟨⟨l, tt⟩, hbr⟩ : ∃ r, befRes (p1, p2) g = r := ⟨_, rfl⟩
      have HBr := Lib.hid hbr
      have b0 : (0 : Int) ≤ (k : Int) := by omega
      have b1 : (k : Int) < (f.length : Int) := by omega
      have v2 : IntKind.i64.wrap ((k : Int) + 1) = (k : Int) + 1 := IntWalk.i64_in _ (by omega)
      have v3 : IntKind.i64.wrap (k : Int) = (k : Int) := IntWalk.i64_in _ (by omega)
      clear hx hy hbr
      go_wp2_with fail
      refine (imBefore_is g _ p1 p2 l tt HBr.out _ (HG.out.keep (nextX hBr (by go_grown))) HMg.out HOy.out).mono ?_
      rintro e w5 ⟨r5, rfl, ow5, hb5⟩
      have hX : Below wr.heap.size wr w5 := nextX (by go_grown) hb5
      have HO5 := Lib.hid (HO.out.keep hX)
      have HR5 := Lib.hid ow5.read
      have hB5 := nextW hb hX
      have hB6 := nextW hBr hX
      have hz5 : w.heap.size ≤ w5.heap.size := hB6.size
      clear hb5 hX ow5 c00 c01 c02 c03 HO
      rcases hbo : befOk (p1, p2) g with _ | _
      · obtain ⟨rfl, rfl⟩ : [] = l ∧ false = tt := by have := HBr.out; unfold befRes at this; rw [if_neg (by rw [hbo]; simp)] at this; exact Prod.mk.inj this
        obtain ⟨rfl, rfl⟩ : [] = m ∧ false = t := by have := HL.out; rw [comQ_stop1 (cutBad_stop HMem.out hbo)] at this; exact Prod.mk.inj this
        go_wp2_with fail
        go_ret2
        exact ⟨_, rfl, World.ownsRow_nil _ _ _ _, hB6⟩
      · obtain ⟨rfl, rfl⟩ : befQ (p1, p2) g = l ∧ true = tt := by have := HBr.out; unfold befRes at this; rw [if_pos hbo] at this; exact Prod.mk.inj this
        have HOl := Lib.hid (befQ_unit HMg.out HOy.out hbo).ok
        have HOs := Lib.hid (cutS_unit HMg.out HYs.out HCb.out).ok
        have hln := befQ_len (p1, p2) g
        obtain ⟨A5, c5, rfl, hr1, hr2, hrc⟩ := HR5.out
        unfold maxLen at hr2
        have HC5 := Lib.hid hrc
        clear hrc HR5
        go_wp2_with fail
        go_name_world V0 hV
        rw [hV] at HO5 HC5 hB5 hB6 hz5
        have hzl := HLe.out k
        generalize hql : befQ (p1, p2) g = l at *
        generalize hqs : cutS g (f.map (·.1)) k = s at *
        clear hV
        go_loopw [6, 39] (fun xs i wr => RelCsB l s w.heap.size V0 xs i wr) (fun _ i _ => l.length - (intOf i).toNat)
        case atStart => exact ⟨0, Nat.zero_le _, rfl, HO5.out, Below.refl _ _⟩
        case round =>
          obtain ⟨j, hj2, rfl, hown, hbj⟩ := hrel
          have HO := Lib.hid hown
          have hBs := nextW hB6 hbj
          have hBt := nextW hB5 hbj
          have hzs : w.heap.size ≤ wr.heap.size := hBs.size
          have HFo := Lib.hid (fold_ok HOl.out HOs.out j)
          have hfl := fold_len l s j
          clear hown
          by_cases hlt2 : j < l.length
          · have hx := List.getElem?_eq_getElem hlt2
            generalize l[j] = x at *
            obtain ⟨g5, o5, rfl, hg5, hc5⟩ := HC5.out (by rintro rfl; simp at hlt2)
            obtain ⟨d0, d1⟩ := hc5 j _ hx
            have HFn := Lib.hid (fold_next (s := s) hx)
            have hox := HOl.out _ (List.mem_of_getElem? hx)
            obtain ⟨x1, x2⟩ := x
            have HOx := Lib.hid hox
            replace d0 := cellB hbj d0
            replace d1 := cellB hbj d1
            have e0 : (0 : Int) ≤ (j : Int) := by omega
            have e1 : (j : Int) < (l.length : Int) := by omega
            have e2 : IntKind.i64.wrap ((j : Int) + 1) = (j : Int) + 1 := IntWalk.i64_in _ (by omega)
            have e3 : IntKind.i64.wrap (j : Int) = (j : Int) := IntWalk.i64_in _ (by omega)
            clear hx hox hc5
            go_wp2_with fail
            refine (imPut_is w.heap.size _ _ x1 x2 _ (HO.out.keep (by go_grown)) HFo.out HOx.out (by omega) (by go_size)).mono ?_
            rintro e w6 ⟨r6, rfl, ow, hb6⟩
            have hX6 : Below wr.heap.size wr w6 := nextX (by go_grown) hb6
            have HO6 := Lib.hid ow
            have hB7 := nextW hbj hX6
            clear ow hb6 hX6 d0 d1
            go_wp2_with fail
            go_roundw
            case rel => exact ⟨j + 1, by omega, by go_num, by rw [HFn.out]; exact HO6.out, hB7⟩
            case measure => simp [intOf] <;> omega
          · obtain rfl : j = l.length := by omega
            have HE := Lib.hid (show OwQ w.heap.size 31 wr _ (l.foldl (fun l x => insQ x l) s) by have := HO.out; rwa [List.take_length] at this)
            clear HO
            go_wp2_with fail
            go_roundw
            case rel => exact ⟨k + 1, by omega, by go_num, by rw [HLn.out]; exact HE.out, by rw [HBn.out, HCb.out, hbo]; rfl, hBt⟩
            case measure => simp [intOf] <;> omega
    · obtain rfl : k = f.length := by omega
      have hxs := comXs_same HMf.out HMg.out HCb.out
      have hok := cutOk_of HCb.out
      have hO2 := HO.out
      rw [hxs] at hO2
      have HUx := Lib.hid (show UnL (comXs f g) from cutAll_unit HMg.out HYs.out)
      obtain ⟨g1, cap1, rfl, hc1, hc2, -, hg1, hcell1⟩ := hO2.lit (n := (comXs f g).length) rfl (by omega)
      unfold maxLen at hc2
      have HC1 := Lib.hid hcell1
      clear HO hO2 hcell1
      go_wp2_with fail
      go_name_world V0 hV
      rw [hV] at HC1 hBr hg1
      have hzv : w.heap.size ≤ V0.heap.size := hBr.size
      clear hV hb hzr
      go_loopw [13, 50] (fun out i wr => RelCsC f g V0 out i wr) (fun _ i _ => (comXs f g).length - (intOf i).toNat)
      case atStart => exact ⟨0, Nat.zero_le _, rfl, World.ownsRow_nil _ _ _ _, by simp, Below.refl _ _⟩
      case round =>
        obtain ⟨k, hk3, rfl, hown, hal, hb⟩ := hrel
        have HO := Lib.hid hown
        have HAl := Lib.hid hal
        have hBs := nextW hBr hb
        have hzs : V0.heap.size ≤ wr.heap.size := hb.size
        clear hown hal
        by_cases hlt : k < (comXs f g).length
        · have hx := List.getElem?_eq_getElem hlt
          generalize (comXs f g)[k] = x at *
          obtain ⟨c0, c1⟩ := HC1.out k _ hx
          have hxm := List.mem_of_getElem? hx
          have ux := HUx.out _ hxm
          have hsn := comL_get hx
          have haln : ((comXs f g).take (k + 1)).all (comT f g) = (((comXs f g).take k).all (comT f g) && comT f g x) := by rw [take_snoc_get hx, List.all_append]; simp
          obtain ⟨x1, x2⟩ := x
          rcases hy : valQ g (x1, x2) with ⟨⟨y1, y2⟩, ty⟩
          have uy : unitQ y1 y2 = true := by have := valQ_unit (x := (x1, x2)) HMg.out ux; rw [hy] at this; exact this
          rcases hz : valQ f (y1, y2) with ⟨⟨z1, z2⟩, tz⟩
          have hcv : comV f g (x1, x2) = (z1, z2) := by unfold comV; rw [hy]; simp only; rw [hz]
          have hct : comT f g (x1, x2) = (ty && tz) := by unfold comT; rw [hy]; simp only; rw [hz]
          rw [hcv] at hsn
          rw [hct] at haln
          have HSn := Lib.hid hsn
          have HAn := Lib.hid haln
          have HXm := Lib.hid hxm
          have HCt := Lib.hid hct
          have HUx1 := Lib.hid ux
          have HUy := Lib.hid uy
          have HYq := Lib.hid hy
          have HZq := Lib.hid hz
          obtain ⟨ya, yb, hya, hyt⟩ := atQ_of hy
          obtain ⟨za, zb, hza, hzt⟩ := atQ_of hz
          have HYa := Lib.hid hya
          have HZa := Lib.hid hza
          have HYt := Lib.hid hyt
          have HZt := Lib.hid hzt
          replace c0 := cellB hb c0
          replace c1 := cellB hb c1
          have b0 : (0 : Int) ≤ (k : Int) := by omega
          have b1 : (k : Int) < ((comXs f g).length : Int) := by omega
          have v2 : IntKind.i64.wrap ((k : Int) + 1) = (k : Int) + 1 := IntWalk.i64_in _ (by omega)
          have v3 : IntKind.i64.wrap (k : Int) = (k : Int) := IntWalk.i64_in _ (by omega)
          have hlk : ((comL f g).take k).length ≤ 400 := by unfold comL ptsQ; rw [List.length_take, List.length_map]; omega
          clear hx ux hsn haln hy hz hcv hct uy hxm hya hza hyt hzt
          go_wp2_with fail
          refine (imAt_is g _ x1 x2 ya yb ty _ (HG.out.keep (nextX hBs (by go_grown))) HMg.out HUx1.out HYa.out).mono ?_
          rintro e w5 ⟨rfl, hb5⟩
          have xb0 : w5.cell? ⟨wr.heap.size, 0, none⟩ = some (.int .i64 x1) := cellB hb5 (by simp [go_sem])
          have xb1 : w5.cell? ⟨wr.heap.size, 1, none⟩ = some (.int .i64 x2) := cellB hb5 (by simp [go_sem])
          have hX : Below wr.heap.size wr w5 := nextX (by go_grown) hb5
          have HO5 := Lib.hid (HO.out.keep hX)
          have hB5 := nextW hb hX
          have hB6 := nextW hBs hX
          have zx := lt_of_cell xb0
          have hz5 : V0.heap.size ≤ w5.heap.size := hB5.size
          clear hb5 hX c0 c1 HO
          rcases ty with _ | _
          · obtain ⟨rfl, rfl⟩ : [] = m ∧ false = t := by have := HL.out; rw [comQ_stop2 HXm.out (by rw [HCt.out]; rfl)] at this; exact Prod.mk.inj this
            go_wp2_with fail
            go_ret2
            exact ⟨_, rfl, World.ownsRow_nil _ _ _ _, nextX hB6 (by go_grown)⟩
          · obtain ⟨rfl, rfl⟩ := HYt.out rfl
            go_wp2_with fail
            refine (imAt_is f _ ya yb za zb tz _ (HF.out.keep (nextX hB6 (by go_grown))) HMf.out HUy.out HZa.out).mono ?_
            rintro e w6 ⟨rfl, hb6⟩
            have hX : Below w5.heap.size w5 w6 := nextX (by go_grown) hb6
            replace xb0 := cellB hX xb0
            replace xb1 := cellB hX xb1
            have HO6 := Lib.hid (HO5.out.keep hX)
            have hB7 := nextW hB5 hX
            have hB8 := nextW hB6 hX
            have zx2 := lt_of_cell xb0
            have hz6 : V0.heap.size ≤ w6.heap.size := hB7.size
            have hz7 := hX.size
            have n6 : wr.heap.size ≠ w6.heap.size := by omega
            clear hb6 hX HO5
            rcases tz with _ | _
            · obtain ⟨rfl, rfl⟩ : [] = m ∧ false = t := by have := HL.out; rw [comQ_stop2 HXm.out (by rw [HCt.out]; rfl)] at this; exact Prod.mk.inj this
              go_wp2_with fail
              go_ret2
              exact ⟨_, rfl, World.ownsRow_nil _ _ _ _, nextX hB8 (by go_grown)⟩
            · obtain ⟨rfl, rfl⟩ := HZt.out rfl
              go_wp2_with (at_builtin; refine append_p1 _ rfl _ _ rfl V0.heap.size _ ((comL f g).take k) rfl ?own _ _ x1 x2 za zb rfl ?c0 ?c1 ?c2 ?c3 ?len ?base ?_)
              case own => exact HO6.out.keep (by go_grown)
              try (case c0 => simp [go_sem])
              try (case c1 => simp [go_sem])
              try (case c2 => simp [go_sem])
              try (case c3 => simp [go_sem])
              case len => omega
              case base => go_size
              intro v' w' hown h7
              have hX7 : Below V0.heap.size w6 w' := Below.trans (by go_grown) h7
              have HO7 := Lib.hid hown
              have hB9 : Below V0.heap.size V0 w' := Below.trans hB7 hX7
              clear hown h7 hX7 xb0 xb1
              go_wp2_with fail
              go_roundw
              case rel => exact ⟨k + 1, by omega, by go_num, by rw [HSn.out]; exact HO7.out, by rw [HAn.out, HAl.out]; rfl, hB9⟩
              case measure => simp [intOf] <;> omega
        · obtain rfl : k = (comXs f g).length := by omega
          have hav : (comXs f g).all (comT f g) = true := by have := HAl.out; rwa [List.take_length] at this
          have HE := Lib.hid (show OwP V0.heap.size 51 wr u13 (comL f g) by have := HO.out; rwa [List.take_of_length_le (by unfold comL ptsQ; simp)] at this)
          have hmq : madeQ (comL f g) = (m, t) := by rw [← HL.out]; exact (comQ_yes hok hav).symm
          clear HO
          go_wp2_with fail
          refine (coIf_is (comL f g) _ m t hmq HJ.out _ (HE.out.read.keep (by go_grown))).mono ?_
          rintro e w7 ⟨r7, rfl, ow7, hb7⟩
          have hX7 : Below wr.heap.size wr w7 := nextX (by go_grown) hb7
          have HO7 := Lib.hid (ow7.low (b := w.heap.size) (by go_size))
          have hB7 := nextX hBs hX7
          clear ow7 hb7 hX7
          go_wp2_with fail
          go_ret2
          exact ⟨_, rfl, HO7.out, hB7⟩

set_option maxHeartbeats 1600000 in
theorem sComposeMaps_is (f g : List Pt) (vf vg : Value) (m : List Pt) (t : Bool) (hl : composeQ f g = (m, t)) (w : World) (hf : RdP w vf f) (hg : RdP w vg g) (hn : f.length ≤ 1048576) (hk : g.length ≤ 1048576) :
    Calls Tryz.prog 10 #[vf, vg] w (RetPB w m t) := by
  have HF := Lib.hid hf
  have HG := Lib.hid hg
  have HL := Lib.hid hl
  rcases hm : (okMap f && okMap g) with _ | _
  · obtain ⟨rfl, rfl⟩ : [] = m ∧ false = t := by have := HL.out; unfold composeQ at this; rw [if_neg (by rw [hm]; simp)] at this; exact Prod.mk.inj this
    have HM := Lib.hid hm
    clear hf hg hl hm
    go_enter Tryz.func10, Tryz.ntmps10
    go_wp2_with fail
    refine (coTwo_is f g _ _ false HM.out _ (HF.out.keep (by go_grown)) (HG.out.keep (by go_grown)) hn hk).mono ?_
    rintro e w1 ⟨rfl, hb⟩
    go_wp2_with fail
    go_ret2
    exact ⟨_, rfl, World.ownsRow_nil _ _ _ _, hb⟩
  · have HM := Lib.hid hm
    have HMF := Lib.hid (show okMap f = true by simp at hm; exact hm.1)
    have HMG := Lib.hid (show okMap g = true by simp at hm; exact hm.2)
    have hres : comQ f g = (m, t) := by have := HL.out; unfold composeQ at this; rwa [if_pos hm] at this
    have HRes := Lib.hid hres
    clear hf hg hl hm hres
    go_enter Tryz.func10, Tryz.ntmps10
    go_wp2_with fail
    refine (coTwo_is f g _ _ true HM.out _ (HF.out.keep (by go_grown)) (HG.out.keep (by go_grown)) hn hk).mono ?_
    rintro e w1 ⟨rfl, hb⟩
    have hB : Below w.heap.size w w1 := hb
    clear hb
    go_wp2_with fail
    refine (coCompose_is f g _ _ m t HRes.out w1 (HF.out.keep hB) (HG.out.keep hB) HMF.out HMG.out).mono ?_
    rintro e w2 ⟨r, rfl, ow, hb⟩
    have HO := Lib.hid (ow.low (b := w.heap.size) hB.size)
    have hB2 := nextW hB hb
    clear ow hb
    go_wp2_with fail
    go_ret2
    exact ⟨_, rfl, HO.out, hB2⟩

end Go.Proofs.YtkeajfgcjmhmiaaGreat
