/- IsBelow of both. -/
import Derived.Test.YtkaekjhcphgldaaBotB
import Derived.Test.YtkaekjhcphgldaaSame2
namespace Go.Proofs.Ytkaekjhcphgldaa
open Go.RowKit

def belB (f g : List Pt) (x : Q) : Bool := !lessQ (valQ g x).1.1 (valQ g x).1.2 (valQ f x).1.1 (valQ f x).1.2
def belTo (f g : List Pt) (k : Nat) : Bool := ((bothQ f g).take k).all (belB f g)
def fineTo2 (f g : List Pt) (k : Nat) : Bool := ((bothQ f g).take k).all (fineV f g)
theorem belTo_next {f g : List Pt} {k : Nat} {x : Q} (h : (bothQ f g)[k]? = some x) : belTo f g (k + 1) = (belTo f g k && belB f g x) := by
  unfold belTo; rw [take_snoc_get h, List.all_append]; simp
theorem fineTo2_next {f g : List Pt} {k : Nat} {x : Q} (h : (bothQ f g)[k]? = some x) : fineTo2 f g (k + 1) = (fineTo2 f g k && fineV f g x) := by
  unfold fineTo2; rw [take_snoc_get h, List.all_append]; simp
theorem fineTo2_all (f g : List Pt) : fineTo2 f g (bothQ f g).length = allFine f g := by unfold fineTo2 allFine; rw [List.take_length]
theorem belTo_not {f g : List Pt} {k : Nat} (h : belTo f g k = false) : (bothQ f g).all (belB f g) = false := by
  unfold belTo at h
  rw [List.all_eq_false] at h ⊢
  obtain ⟨x, hx, h2⟩ := h
  exact ⟨x, List.mem_of_mem_take hx, h2⟩
/-- What IsBelow gives. -/
def belowQ (f g : List Pt) : Bool × Bool := if (okMap f && okMap g) = true then (if allFine f g = true then ((bothQ f g).all (belB f g), true) else (false, false)) else (false, false)
theorem bothQ_pos {f g : List Pt} (h : okMap f = true) : 0 < (bothQ f g).length := by
  have hl := okMap_len h
  obtain ⟨p, hp⟩ : ∃ p, f[0]? = some p := ⟨_, List.getElem?_eq_getElem (by omega)⟩
  have : p.1 ∈ bothQ f g := by
    unfold bothQ
    rw [setQ_mem, List.mem_append]
    exact Or.inl (List.mem_map.2 ⟨p, List.mem_of_getElem? hp, rfl⟩)
  exact List.length_pos_of_mem this

def RelSb (f g : List Pt) (W0 : World) (i : Value) (wr : World) : Prop := ∃ k : Nat, k ≤ (bothQ f g).length ∧ i = .int .i64 k ∧ belTo f g k = true ∧ Below W0.heap.size W0 wr

set_option maxRecDepth 100000 in
set_option maxHeartbeats 1600000 in
theorem sIsBelow_is (f g : List Pt) (vf vg : Value) (a b : Bool) (hl : belowQ f g = (a, b)) (w : World) (hf : RdP w vf f) (hg : RdP w vg g) (hn : f.length ≤ 1048576) (hk : g.length ≤ 1048576) :
    Calls Try.prog 24 #[vf, vg] w (fun e w' => e = .returned (.tuple #[.bool a, .bool b]) ∧ Below w.heap.size w w') := by
  have HF := Lib.hid hf
  have HG := Lib.hid hg
  have HL := Lib.hid hl
  rcases hm : (okMap f && okMap g) with _ | _
  · obtain ⟨rfl, rfl⟩ : false = a ∧ false = b := by have := HL.out; unfold belowQ at this; rw [if_neg (by rw [hm]; simp)] at this; exact Prod.mk.inj this
    have HM := Lib.hid hm
    clear hf hg hl hm
    go_enter Try.func24, Try.ntmps24
    go_wp2_with fail
    refine (coTwo_is f g _ _ false HM.out _ (HF.out.keep (by go_grown)) (HG.out.keep (by go_grown)) hn hk).mono ?_
    rintro e w1 ⟨rfl, hb⟩
    go_wp2_with fail
    go_ret2
    exact ⟨rfl, hb⟩
  · have HM := Lib.hid hm
    have MF : okMap f = true := by simp at hm; exact hm.1
    have MG : okMap g = true := by simp at hm; exact hm.2
    have HMF := Lib.hid MF
    have HMG := Lib.hid MG
    have hpos := bothQ_pos (g := g) MF
    have l1 := okMap_len MF
    have l2 := okMap_len MG
    have hbl := bothQ_len f g
    have HUn := Lib.hid (bothQ_unit MF MG)
    obtain ⟨⟨ra, rb, t⟩, hcv⟩ : ∃ r, cvQ f g = r := ⟨_, rfl⟩
    have HCv := Lib.hid hcv
    clear hf hg hl hm MF MG hcv
    go_enter Try.func24, Try.ntmps24
    go_wp2_with fail
    refine (coTwo_is f g _ _ true HM.out _ (HF.out.keep (by go_grown)) (HG.out.keep (by go_grown)) hn hk).mono ?_
    rintro e w1 ⟨rfl, hb⟩
    have hB : Below w.heap.size w w1 := hb
    clear hb
    go_wp2_with fail
    refine (coValues_is f g _ _ ra rb t HCv.out w1 (HF.out.keep hB) (HG.out.keep hB) HMF.out HMG.out).mono ?_
    rintro e w2 ⟨r, s, rfl, owr, ows, hb⟩
    have hB2 := nextW hB hb
    clear hb
    rcases hfa : allFine f g with _ | _
    · obtain ⟨rfl, rfl, rfl⟩ : [] = ra ∧ [] = rb ∧ false = t := by have := HCv.out; unfold cvQ at this; rw [if_neg (by rw [hfa]; simp)] at this; simpa using this
      obtain ⟨rfl, rfl⟩ : false = a ∧ false = b := by have := HL.out; unfold belowQ at this; rw [if_pos HM.out, if_neg (by rw [hfa]; simp)] at this; exact Prod.mk.inj this
      clear owr ows
      go_wp2_with fail
      go_ret2
      exact ⟨rfl, hB2⟩
    · obtain ⟨rfl, rfl, rfl⟩ : valA f g = ra ∧ valB f g = rb ∧ true = t := by have := HCv.out; unfold cvQ at this; rw [if_pos hfa] at this; simpa using this
      have hab : ((bothQ f g).all (belB f g), true) = (a, b) := by have := HL.out; unfold belowQ at this; rwa [if_pos HM.out, if_pos hfa] at this
      obtain ⟨g1, cap1, rfl, hc1, hc2, -, hg1, hcell1⟩ := owr.lit (n := (bothQ f g).length) (by unfold valA; simp) hpos
      obtain ⟨g2, cap2, rfl, hd1, hd2, -, hg2, hcell2⟩ := ows.lit (n := (bothQ f g).length) (by unfold valB; simp) hpos
      unfold maxLen at hc2 hd2
      have HC1 := Lib.hid hcell1
      have HC2 := Lib.hid hcell2
      have HAB := Lib.hid hab
      clear owr ows hcell1 hcell2 hab
      go_wp2_with fail
      go_name_world W0 hW
      rw [hW] at HC1 HC2 hB2 hg1 hg2
      clear hW
      go_loopw [25] (fun i wr => RelSb f g W0 i wr) (fun i _ => (bothQ f g).length - (intOf i).toNat)
      case atStart => exact ⟨0, Nat.zero_le _, rfl, by unfold belTo; simp, Below.refl _ _⟩
      case round =>
        obtain ⟨k, hk2, rfl, hbe, hb⟩ := hrel
        have HBe := Lib.hid hbe
        have hBr := nextW hB2 hb
        clear hbe
        by_cases hlt : k < (bothQ f g).length
        · have hx := List.getElem?_eq_getElem hlt
          generalize (bothQ f g)[k] = x at *
          have hya : (valA f g)[k]? = some (valQ f x).1 := by unfold valA; rw [List.getElem?_map, hx]; rfl
          have hyb : (valB f g)[k]? = some (valQ g x).1 := by unfold valB; rw [List.getElem?_map, hx]; rfl
          have ux := HUn.out _ (List.mem_of_getElem? hx)
          have uf := valQ_unit (x := x) HMF.out ux
          have ug := valQ_unit (x := x) HMG.out ux
          have HNx := Lib.hid (belTo_next hx)
          have hbb : belB f g x = !lessQ (valQ g x).1.1 (valQ g x).1.2 (valQ f x).1.1 (valQ f x).1.2 := rfl
          obtain ⟨c0, c1⟩ := HC1.out k _ hya
          obtain ⟨d0, d1⟩ := HC2.out k _ hyb
          rcases hy : (valQ f x).1 with ⟨y1, y2⟩
          rcases hz : (valQ g x).1 with ⟨z1, z2⟩
          rw [hy] at c0 c1 uf hbb
          rw [hz] at d0 d1 ug hbb
          replace c0 := cellB hb c0
          replace c1 := cellB hb c1
          replace d0 := cellB hb d0
          replace d1 := cellB hb d1
          obtain ⟨v, hv⟩ : ∃ v, cmpQ y1 y2 z1 z2 = v := ⟨_, rfl⟩
          have HV := Lib.hid (fun W => raCmp_is y1 y2 z1 z2 v (Sm.of_ok (unitQ_ok uf)) (Sm.of_ok (unitQ_ok ug)) hv W)
          have hbv : belB f g x = !decide (0 < v) := by
            rw [hbb]
            have : lessQ z1 z2 y1 y2 = decide (cmpQ z1 z2 y1 y2 < 0) := lessQ_cmp _ _ _ _
            rw [this, cmpQ_swap y1 y2 z1 z2, hv]
            congr 1
            exact decide_eq_decide.2 (by omega)
          have HBv := Lib.hid hbv
          have b0 : (0 : Int) ≤ (k : Int) := by omega
          have b1 : (k : Int) < ((bothQ f g).length : Int) := by omega
          have v2 : IntKind.i64.wrap ((k : Int) + 1) = (k : Int) + 1 := IntWalk.i64_in _ (by omega)
          have v3 : IntKind.i64.wrap (k : Int) = (k : Int) := IntWalk.i64_in _ (by omega)
          have kL : Facts [(g1, k * 2, Value.int .i64 y1), (g1, k * 2 + 1, Value.int .i64 y2), (g2, k * 2, Value.int .i64 z1), (g2, k * 2 + 1, Value.int .i64 z2)] wr := ⟨c0, c1, d0, d1⟩
          clear hx hya hyb ux uf ug hbb hy hz c0 c1 d0 d1 hv hbv
          rcases Int.lt_or_le 0 v with h0 | h0
          · have hd : decide (0 < v) = true := by simpa using h0
            have hno : (bothQ f g).all (belB f g) = false := belTo_not (k := k + 1) (by rw [HNx.out, HBv.out, hd]; simp)
            obtain ⟨rfl, rfl⟩ : false = a ∧ true = b := by have := HAB.out; rw [hno] at this; exact Prod.mk.inj this
            go_wp2_with fail
            go_region_held3 (fun w' => w'.cell? ⟨g1, k * 2, none⟩ = some (.int .i64 y1) ∧ w'.cell? ⟨g1, k * 2 + 1, none⟩ = some (.int .i64 y2) ∧ w'.cell? ⟨g2, k * 2, none⟩ = some (.int .i64 z1) ∧ w'.cell? ⟨g2, k * 2 + 1, none⟩ = some (.int .i64 z2))
              ((refine Facts.keep kL ?_; go_grown; done))
              ((go_at_call 48; (with_reducible refine (HV.out _).mono ?_); rintro e w5 ⟨rfl, hb5⟩; have hX5 : Below wr.heap.size wr w5 := nextX (by go_grown) hb5))
            go_wp2_with fail
            go_ret2
            exact ⟨rfl, nextW hBr hX5⟩
          · have hd : decide (0 < v) = false := by simpa using h0
            have hbk : belTo f g (k + 1) = true := by rw [HNx.out, HBv.out, hd, HBe.out]; rfl
            have HBk := Lib.hid hbk
            clear hbk
            go_wp2_with fail
            go_region_held3 (fun w' => w'.cell? ⟨g1, k * 2, none⟩ = some (.int .i64 y1) ∧ w'.cell? ⟨g1, k * 2 + 1, none⟩ = some (.int .i64 y2) ∧ w'.cell? ⟨g2, k * 2, none⟩ = some (.int .i64 z1) ∧ w'.cell? ⟨g2, k * 2 + 1, none⟩ = some (.int .i64 z2))
              ((refine Facts.keep kL ?_; go_grown; done))
              ((go_at_call 48; (with_reducible refine (HV.out _).mono ?_); rintro e w5 ⟨rfl, hb5⟩; have hX5 : Below wr.heap.size wr w5 := nextX (by go_grown) hb5))
            have hB5 := nextW hb hX5
            go_wp2_with fail
            go_roundw
            case rel => exact ⟨k + 1, by omega, by go_num, HBk.out, hB5⟩
            case measure => simp [intOf]; omega
        · obtain rfl : k = (bothQ f g).length := by omega
          obtain ⟨rfl, rfl⟩ : true = a ∧ true = b := by
            have := HAB.out
            have h2 := HBe.out
            unfold belTo at h2
            rw [List.take_length] at h2
            rw [h2] at this
            exact Prod.mk.inj this
          go_wp2_with fail
          go_ret2
          exact ⟨rfl, hBr⟩

end Go.Proofs.Ytkaekjhcphgldaa
