/- The slopes of all pieces: slopes, imSlopes, SlopesOf of both. -/
import Derived.Test.YtkeajfgcjmhmiaaOrbs
import Derived.Deep.AppendLies
namespace Go.Proofs.Ytkeajfgcjmhmiaa
open Go.RowKit

/-- Points with coordinates, rising. -/
structure RiseC (ps : List Pt) : Prop where
  coord : ∀ (i : Nat) (p : Pt), ps[i]? = some p → coordQ p.1.1 p.1.2 = true ∧ coordQ p.2.1 p.2.2 = true
  rise : ∀ (i : Nat) (p q : Pt), ps[i]? = some p → ps[i + 1]? = some q → lessQ p.1.1 p.1.2 q.1.1 q.1.2 = true
theorem okMap_riseC {ps : List Pt} (h : okMap ps = true) : RiseC ps := ⟨fun _ _ => okMap_coord h, fun _ _ _ => okMap_rising h⟩

/-- The slopes of all pieces. -/
def slopesQ (ps : List Pt) : List Q := List.zipWith slopeQ ps ps.tail
theorem slopesQ_len (ps : List Pt) : (slopesQ ps).length = ps.length - 1 := by
  unfold slopesQ; rw [List.length_zipWith, List.length_tail]; omega
theorem slopesQ_get {ps : List Pt} {i : Nat} {p q : Pt} (hp : ps[i]? = some p) (hq : ps[i + 1]? = some q) : (slopesQ ps)[i]? = some (slopeQ p q) := by
  unfold slopesQ
  rw [List.getElem?_zipWith, List.getElem?_tail, hp, hq]
theorem take_snoc_get {α : Type} {l : List α} {k : Nat} {x : α} (h : l[k]? = some x) : l.take (k + 1) = l.take k ++ [x] := by
  obtain ⟨h1, h2⟩ := List.getElem?_eq_some_iff.1 h
  rw [List.take_succ_eq_append_getElem h1, h2]

/-- Facts on old blocks, carried over whatever leaves the old blocks alone. -/
theorem Facts.keepB {B : Nat} : ∀ {L : List (Nat × Nat × Value)} {W w1 : World}, Facts L W → Below B W w1 → (∀ x ∈ L, x.1 < B) → Facts L w1
  | [], _, _, _, _, _ => trivial
  | x :: [], _, _, h, hb, hn => (hb.cell (p := ⟨x.1, x.2.1, none⟩) (hn x (by simp))).trans h
  | x :: y :: r, _, _, h, hb, hn => ⟨(hb.cell (p := ⟨x.1, x.2.1, none⟩) (hn x (by simp))).trans h.1, Facts.keepB h.2 hb (fun z hz => hn z (List.mem_cons_of_mem _ hz))⟩

/-- Appending one fraction at a step of a statement that draws its order. -/
theorem step_append_q {ops : Array Oper} {o : Oper} {a : Act} {K : Act → World → Prop} {Q' : Exit → Act → World → Prop} {E : Prop} (w : World) (hgd : o.guard = none) (s x : Operand)
    (ho : o.op = .call { callee := .builtin .append, args := #[s, x], argTypes := #[28, 28] })
    (base : Nat) (v : Value) (qs : List Q) (hs : a.eval s = v) (hown : OwQ base 32 w v qs)
    (g c : Nat) (n d : Int) (hx : a.eval x = .slice (some ⟨g, 0, none⟩) 1 c) (c0 : w.cell? ⟨g, 0, none⟩ = some (.int .i64 n)) (c1 : w.cell? ⟨g, 1, none⟩ = some (.int .i64 d))
    (hlen : qs.length ≤ 900000) (hbase : base ≤ w.heap.size)
    (h : ∀ v' w', OwQ base 32 w' v' (qs ++ [(n, d)]) → Below base w w' → K (a.put o.dst v') w') :
    if Region.wanted o (yielded ops a.tmps) = true then Oper.wp Try.prog o a w K Q' else E := by
  obtain ⟨i, hi, hz, hsz, hb⟩ := info_parts Try.infoQ
  have hcell : ∀ j u, (rowQ [(n, d)])[j]? = some u → w.cell? ((⟨g, 0, none⟩ : Addr).add j) = some u := by
    intro j u hj
    have hadd : (⟨g, 0, none⟩ : Addr).add j = ⟨g, j, none⟩ := by unfold Addr.add; split <;> simp_all
    rw [hadd]
    match j, hj with
    | 0, hj => simp [rowQ] at hj; subst hj; exact c0
    | 1, hj => simp [rowQ] at hj; subst hj; exact c1
    | j + 2, hj => simp [rowQ] at hj
  have hone : ∀ u ∈ rowQ [(n, d)], u.oneCell' = true := by
    intro u hu
    simp [rowQ] at hu
    rcases hu with rfl | rfl <;> rfl
  refine step_append_lies w hgd s x 28 ho base 32 i _ 2 16 Try.underlying28 hi hz hsz hb rfl (by decide) v qs.length (rowQ qs) hs hown ⟨g, 0, none⟩ 1 c (rowQ [(n, d)]) hx rfl hcell hone (by decide) (by unfold maxLen; omega) (by omega) hbase _ rfl ?_
  intro g' cap w' h1 h2 h3 _
  refine h _ w' ?_ ((Below.refl _ _).grown h2 hbase (fun k hk => (hown.lt k hk).1))
  unfold OwQ; rw [List.length_append, rowQ_app]; exact h1

def RelSl (ps : List Pt) (h : Nat) (W0 : World) (out i : Value) (wr : World) : Prop :=
  ∃ k : Nat, k + 1 ≤ ps.length ∧ i = .int .i64 (k + 1) ∧ OwQ h 32 wr out ((slopesQ ps).take k) ∧ Below h W0 wr

set_option maxRecDepth 100000 in
set_option maxHeartbeats 1600000 in
theorem slopes_is (ps : List Pt) (v : Value) (w : World) (hv : RdP w v ps) (hr : RiseC ps) (hn : 1 ≤ ps.length ∧ ps.length ≤ 100000) :
    Calls Try.prog 23 #[v] w (RetQ w (slopesQ ps)) := by
  obtain ⟨A, c, rfl, hl, hm, hcell⟩ := hv
  unfold maxLen at hm
  obtain ⟨g, o, rfl, hg, hc⟩ := hcell (by intro h; rw [h] at hn; simp at hn)
  have HC := Lib.hid hc
  have HR := Lib.hid hr
  have HLen := Lib.hid (slopesQ_len ps)
  clear hcell hc hr
  go_enter Try.func23, Try.ntmps23
  go_wp2_with fail
  go_name_world W0 hW
  have hB0 : Below w.heap.size w W0 := by rw [← hW]; go_grown
  clear hW
  go_loopw [4, 5] (fun out i wr => RelSl ps w.heap.size W0 out i wr) (fun _ i _ => ps.length - (intOf i).toNat)
  case atStart => exact ⟨0, by omega, rfl, World.ownsRow_nil _ _ _ _, Below.refl _ _⟩
  case round =>
    obtain ⟨k, hk, rfl, hown, hb⟩ := hrel
    have HO := Lib.hid hown
    have hBr := Below.trans hB0 hb
    have hzr := hBr.size
    clear hown
    by_cases hlt : k + 1 < ps.length
    · have hp := List.getElem?_eq_getElem (show k < ps.length by omega)
      have hq := List.getElem?_eq_getElem hlt
      generalize ps[k] = p at *
      generalize ps[k + 1] = q at *
      obtain ⟨c0, c1, c2, c3⟩ := HC.out k _ hp
      obtain ⟨d0, d1, d2, d3⟩ := HC.out (k + 1) _ hq
      have hcp := HR.out.coord _ _ hp
      have hcq := HR.out.coord _ _ hq
      obtain ⟨⟨s1, s2⟩, hsl⟩ : ∃ s, slopeQ p q = s := ⟨_, rfl⟩
      have HSn := Lib.hid (take_snoc_get ((slopesQ_get hp hq).trans (congrArg some hsl)))
      have HSl := Lib.hid (slope_is hcp.1 hcp.2 hcq.1 hcq.2 (HR.out.rise _ _ _ hp hq) hsl)
      obtain ⟨⟨p1, p2⟩, p3, p4⟩ := p
      obtain ⟨⟨q1, q2⟩, q3, q4⟩ := q
      have kL : Facts [(g, o + k * 4, .int .i64 p1), (g, o + k * 4 + 1, .int .i64 p2), (g, o + k * 4 + 2, .int .i64 p3), (g, o + k * 4 + 3, .int .i64 p4), (g, o + (k + 1) * 4, .int .i64 q1), (g, o + (k + 1) * 4 + 1, .int .i64 q2), (g, o + (k + 1) * 4 + 2, .int .i64 q3), (g, o + (k + 1) * 4 + 3, .int .i64 q4)] wr :=
        Facts.keepB (W := w) (B := w.heap.size) (show Facts [_, _, _, _, _, _, _, _] w from ⟨c0, c1, c2, c3, d0, d1, d2, d3⟩) hBr (by simp; omega)
      have hlow : ∀ x ∈ [(g, o + k * 4, Value.int .i64 p1), (g, o + k * 4 + 1, .int .i64 p2), (g, o + k * 4 + 2, .int .i64 p3), (g, o + k * 4 + 3, .int .i64 p4), (g, o + (k + 1) * 4, .int .i64 q1), (g, o + (k + 1) * 4 + 1, .int .i64 q2), (g, o + (k + 1) * 4 + 2, .int .i64 q3), (g, o + (k + 1) * 4 + 3, .int .i64 q4)], x.1 < w.heap.size := by simp; omega
      have HL := Lib.hid hlow
      clear hp hq hcp hcq hsl c0 c1 c2 c3 d0 d1 d2 d3 hlow
      have b0 : (0 : Int) ≤ (k : Int) := by omega
      have b1 : (k : Int) < (ps.length : Int) := by omega
      have b2 : (k : Int) + 1 < (ps.length : Int) := by omega
      have b3 : (0 : Int) ≤ (k : Int) + 1 := by omega
      have t2 : ((k : Int) + 1).toNat = k + 1 := by omega
      have v2 : IntKind.i64.wrap ((k : Int) + 1) = (k : Int) + 1 := IntWalk.i64_in _ (by omega)
      have v3 : IntKind.i64.wrap (k : Int) = (k : Int) := IntWalk.i64_in _ (by omega)
      go_wp2_with fail
      go_region_held3 (fun w' => w'.cell? ⟨g, o + k * 4, none⟩ = some (.int .i64 p1) ∧ w'.cell? ⟨g, o + k * 4 + 1, none⟩ = some (.int .i64 p2) ∧ w'.cell? ⟨g, o + k * 4 + 2, none⟩ = some (.int .i64 p3) ∧ w'.cell? ⟨g, o + k * 4 + 3, none⟩ = some (.int .i64 p4) ∧ w'.cell? ⟨g, o + (k + 1) * 4, none⟩ = some (.int .i64 q1) ∧ w'.cell? ⟨g, o + (k + 1) * 4 + 1, none⟩ = some (.int .i64 q2) ∧ w'.cell? ⟨g, o + (k + 1) * 4 + 2, none⟩ = some (.int .i64 q3) ∧ w'.cell? ⟨g, o + (k + 1) * 4 + 3, none⟩ = some (.int .i64 q4))
        ((refine Facts.keepB kL ?_ HL.out; go_grown; done))
        ((first
          | (go_at_call 52; (with_reducible refine (HSl.out _ _).mono ?_); rintro e w1 ⟨rfl, hb1⟩; have hX1 : Below w.heap.size wr w1 := nextB (by go_grown) (by go_size) hb1; have hz1 : wr.heap.size ≤ w1.heap.size := hX1.size; have ho1 := Lib.hid (HO.out.keep (nextX (by go_grown) hb1)))
          | (refine step_append_q _ (by rfl) _ _ (by rfl) w.heap.size _ ((slopesQ ps).take k) (by rfl) (ho1.out.keep (by go_grown)) w1.heap.size _ s1 s2 (by rfl) (by simp [go_sem]) (by simp [go_sem]) (by rw [List.length_take, HLen.out]; omega) (by go_size) ?_; intro v' w' hown hg; have hX2 : Below w.heap.size wr w' := Below.trans (by go_grown) hg)))
      have HO2 := Lib.hid hown
      have hB : Below w.heap.size W0 w' := Below.trans hb hX2
      clear hown hg v2 v3 t2 b0 b1 b3
      go_wp2_with fail
      go_roundw
      case rel => exact ⟨k + 1, by omega, by go_num, by rw [HSn.out]; exact HO2.out, hB⟩
      case measure => simp [intOf]; omega
    · have hk' : k = ps.length - 1 := by omega
      have HE := Lib.hid (show OwQ w.heap.size 32 wr u4 (slopesQ ps) by have := HO.out; rwa [List.take_of_length_le (by rw [HLen.out]; omega)] at this)
      have b2 : (ps.length : Int) ≤ (k : Int) + 1 := by omega
      clear HO
      go_wp2_with fail
      go_ret
      exact ⟨_, rfl, HE.out, Below.trans hB0 hb⟩

set_option maxRecDepth 100000 in
set_option maxHeartbeats 1600000 in
theorem imSlopes_is (ps : List Pt) (v : Value) (w : World) (hv : RdP w v ps) (hr : RiseC ps) (hn : 1 ≤ ps.length ∧ ps.length ≤ 100000) :
    Calls Try.prog 24 #[v] w (RetQ w (slopesQ ps)) := by
  obtain ⟨A, c, rfl, hl, hm, hcell⟩ := hv
  unfold maxLen at hm
  obtain ⟨g, o, rfl, hg, hc⟩ := hcell (by intro h; rw [h] at hn; simp at hn)
  have HC := Lib.hid hc
  have HR := Lib.hid hr
  have HLen := Lib.hid (slopesQ_len ps)
  clear hcell hc hr
  go_enter Try.func24, Try.ntmps24
  go_wp2_with fail
  go_name_world W0 hW
  have hB0 : Below w.heap.size w W0 := by rw [← hW]; go_grown
  clear hW
  go_loopw [3, 4] (fun out i wr => RelSl ps w.heap.size W0 out i wr) (fun _ i _ => ps.length - (intOf i).toNat)
  case atStart => exact ⟨0, by omega, rfl, World.ownsRow_nil _ _ _ _, Below.refl _ _⟩
  case round =>
    obtain ⟨k, hk, rfl, hown, hb⟩ := hrel
    have HO := Lib.hid hown
    have hBr := Below.trans hB0 hb
    have hzr := hBr.size
    clear hown
    by_cases hlt : k + 1 < ps.length
    · have hp := List.getElem?_eq_getElem (show k < ps.length by omega)
      have hq := List.getElem?_eq_getElem hlt
      generalize ps[k] = p at *
      generalize ps[k + 1] = q at *
      obtain ⟨c0, c1, c2, c3⟩ := HC.out k _ hp
      obtain ⟨d0, d1, d2, d3⟩ := HC.out (k + 1) _ hq
      have hcp := HR.out.coord _ _ hp
      have hcq := HR.out.coord _ _ hq
      obtain ⟨⟨s1, s2⟩, hsl⟩ : ∃ s, slopeQ p q = s := ⟨_, rfl⟩
      have HSn := Lib.hid (take_snoc_get ((slopesQ_get hp hq).trans (congrArg some hsl)))
      have HSl := Lib.hid (imSlope_is hcp.1 hcp.2 hcq.1 hcq.2 (HR.out.rise _ _ _ hp hq) hsl)
      obtain ⟨⟨p1, p2⟩, p3, p4⟩ := p
      obtain ⟨⟨q1, q2⟩, q3, q4⟩ := q
      have kL : Facts [(g, o + k * 4, .int .i64 p1), (g, o + k * 4 + 1, .int .i64 p2), (g, o + k * 4 + 2, .int .i64 p3), (g, o + k * 4 + 3, .int .i64 p4), (g, o + (k + 1) * 4, .int .i64 q1), (g, o + (k + 1) * 4 + 1, .int .i64 q2), (g, o + (k + 1) * 4 + 2, .int .i64 q3), (g, o + (k + 1) * 4 + 3, .int .i64 q4)] wr :=
        Facts.keepB (W := w) (B := w.heap.size) (show Facts [_, _, _, _, _, _, _, _] w from ⟨c0, c1, c2, c3, d0, d1, d2, d3⟩) hBr (by simp; omega)
      have hlow : ∀ x ∈ [(g, o + k * 4, Value.int .i64 p1), (g, o + k * 4 + 1, .int .i64 p2), (g, o + k * 4 + 2, .int .i64 p3), (g, o + k * 4 + 3, .int .i64 p4), (g, o + (k + 1) * 4, .int .i64 q1), (g, o + (k + 1) * 4 + 1, .int .i64 q2), (g, o + (k + 1) * 4 + 2, .int .i64 q3), (g, o + (k + 1) * 4 + 3, .int .i64 q4)], x.1 < w.heap.size := by simp; omega
      have HL := Lib.hid hlow
      clear hp hq hcp hcq hsl c0 c1 c2 c3 d0 d1 d2 d3 hlow
      have b0 : (0 : Int) ≤ (k : Int) := by omega
      have b1 : (k : Int) < (ps.length : Int) := by omega
      have b2 : (k : Int) + 1 < (ps.length : Int) := by omega
      have b3 : (0 : Int) ≤ (k : Int) + 1 := by omega
      have t2 : ((k : Int) + 1).toNat = k + 1 := by omega
      have v2 : IntKind.i64.wrap ((k : Int) + 1) = (k : Int) + 1 := IntWalk.i64_in _ (by omega)
      have v3 : IntKind.i64.wrap (k : Int) = (k : Int) := IntWalk.i64_in _ (by omega)
      go_wp2_with fail
      go_region_held3 (fun w' => w'.cell? ⟨g, o + k * 4, none⟩ = some (.int .i64 p1) ∧ w'.cell? ⟨g, o + k * 4 + 1, none⟩ = some (.int .i64 p2) ∧ w'.cell? ⟨g, o + k * 4 + 2, none⟩ = some (.int .i64 p3) ∧ w'.cell? ⟨g, o + k * 4 + 3, none⟩ = some (.int .i64 p4) ∧ w'.cell? ⟨g, o + (k + 1) * 4, none⟩ = some (.int .i64 q1) ∧ w'.cell? ⟨g, o + (k + 1) * 4 + 1, none⟩ = some (.int .i64 q2) ∧ w'.cell? ⟨g, o + (k + 1) * 4 + 2, none⟩ = some (.int .i64 q3) ∧ w'.cell? ⟨g, o + (k + 1) * 4 + 3, none⟩ = some (.int .i64 q4))
        ((refine Facts.keepB kL ?_ HL.out; go_grown; done))
        ((first
          | (go_at_call 53; (with_reducible refine (HSl.out _).mono ?_); rintro e w1 ⟨rfl, hb1⟩; have hX1 : Below w.heap.size wr w1 := nextB (by go_grown) (by go_size) hb1; have hz1 : wr.heap.size ≤ w1.heap.size := hX1.size; have ho1 := Lib.hid (HO.out.keep (nextX (by go_grown) hb1)))
          | (refine step_append_q _ (by rfl) _ _ (by rfl) w.heap.size _ ((slopesQ ps).take k) (by rfl) (ho1.out.keep (by go_grown)) w1.heap.size _ s1 s2 (by rfl) (by simp [go_sem]) (by simp [go_sem]) (by rw [List.length_take, HLen.out]; omega) (by go_size) ?_; intro v' w' hown hg; have hX2 : Below w.heap.size wr w' := Below.trans (by go_grown) hg)))
      have HO2 := Lib.hid hown
      have hB : Below w.heap.size W0 w' := Below.trans hb hX2
      clear hown hg v2 v3 t2 b0 b1 b3
      go_wp2_with fail
      go_roundw
      case rel => exact ⟨k + 1, by omega, by go_num, by rw [HSn.out]; exact HO2.out, hB⟩
      case measure => simp [intOf]; omega
    · have hk' : k = ps.length - 1 := by omega
      have HE := Lib.hid (show OwQ w.heap.size 32 wr u3 (slopesQ ps) by have := HO.out; rwa [List.take_of_length_le (by rw [HLen.out]; omega)] at this)
      have b2 : (ps.length : Int) ≤ (k : Int) + 1 := by omega
      clear HO
      go_wp2_with fail
      go_ret
      exact ⟨_, rfl, HE.out, Below.trans hB0 hb⟩

/-- What SlopesOf gives. -/
def slopesOfQ (ps : List Pt) : List Q × Bool := if okMap ps = true then (slopesQ ps, true) else ([], false)
theorem slopesOfQ_len {ps : List Pt} {l : List Q} {t : Bool} (h : slopesOfQ ps = (l, t)) : l.length ≤ 1048576 := by
  unfold slopesOfQ at h
  split at h
  · rename_i hh
    obtain ⟨rfl, -⟩ := Prod.mk.inj h
    rw [slopesQ_len]
    have := okMap_len hh
    omega
  · obtain ⟨rfl, -⟩ := Prod.mk.inj h; simp

set_option maxHeartbeats 400000 in
theorem iSlopesOf_is (ps : List Pt) (v : Value) (l : List Q) (t : Bool) (hl : slopesOfQ ps = (l, t)) (w : World) (hv : RdP w v ps) (hn : ps.length ≤ 1048576) :
    Calls Try.prog 7 #[v] w (RetQB w l t) := by
  have HV := Lib.hid hv
  rcases hm : okMap ps with _ | _
  · obtain ⟨rfl, rfl⟩ : [] = l ∧ false = t := by unfold slopesOfQ at hl; rw [if_neg (by rw [hm]; simp)] at hl; exact Prod.mk.inj hl
    have HM := Lib.hid hm
    clear hv hl hm
    go_enter Try.func7, Try.ntmps7
    go_wp2_with fail
    refine (isMap_is ps v false _ (HV.out.keep (by go_grown)) hn HM.out).mono ?_
    rintro e w1 ⟨rfl, hb⟩
    go_wp2_with fail
    go_ret2
    exact ⟨_, rfl, World.ownsRow_nil _ _ _ _, hb⟩
  · obtain ⟨rfl, rfl⟩ : slopesQ ps = l ∧ true = t := by unfold slopesOfQ at hl; rw [if_pos hm] at hl; exact Prod.mk.inj hl
    have HM := Lib.hid hm
    have hlen := okMap_len hm
    clear hv hl hm
    go_enter Try.func7, Try.ntmps7
    go_wp2_with fail
    refine (isMap_is ps v true _ (HV.out.keep (by go_grown)) hn HM.out).mono ?_
    rintro e w1 ⟨rfl, hb⟩
    have hz := hb.size
    go_wp2_with fail
    refine (slopes_is ps v _ (HV.out.keep hb) (okMap_riseC HM.out) (by omega)).mono ?_
    rintro e w2 ⟨r, rfl, ow, hb2⟩
    have HO := Lib.hid (ow.low (b := w.heap.size) hz)
    clear ow
    go_wp2_with fail
    go_ret2
    exact ⟨_, rfl, HO.out, nextW hb hb2⟩

set_option maxHeartbeats 400000 in
theorem sSlopesOf_is (ps : List Pt) (v : Value) (l : List Q) (t : Bool) (hl : slopesOfQ ps = (l, t)) (w : World) (hv : RdP w v ps) (hn : ps.length ≤ 1048576) :
    Calls Try.prog 8 #[v] w (RetQB w l t) := by
  have HV := Lib.hid hv
  rcases hm : okMap ps with _ | _
  · obtain ⟨rfl, rfl⟩ : [] = l ∧ false = t := by unfold slopesOfQ at hl; rw [if_neg (by rw [hm]; simp)] at hl; exact Prod.mk.inj hl
    have HM := Lib.hid hm
    clear hv hl hm
    go_enter Try.func8, Try.ntmps8
    go_wp2_with fail
    refine (imGood_is ps v false _ (HV.out.keep (by go_grown)) hn HM.out).mono ?_
    rintro e w1 ⟨rfl, hb⟩
    go_wp2_with fail
    go_ret2
    exact ⟨_, rfl, World.ownsRow_nil _ _ _ _, hb⟩
  · obtain ⟨rfl, rfl⟩ : slopesQ ps = l ∧ true = t := by unfold slopesOfQ at hl; rw [if_pos hm] at hl; exact Prod.mk.inj hl
    have HM := Lib.hid hm
    have hlen := okMap_len hm
    clear hv hl hm
    go_enter Try.func8, Try.ntmps8
    go_wp2_with fail
    refine (imGood_is ps v true _ (HV.out.keep (by go_grown)) hn HM.out).mono ?_
    rintro e w1 ⟨rfl, hb⟩
    have hz := hb.size
    go_wp2_with fail
    refine (imSlopes_is ps v _ (HV.out.keep hb) (okMap_riseC HM.out) (by omega)).mono ?_
    rintro e w2 ⟨r, rfl, ow, hb2⟩
    have HO := Lib.hid (ow.low (b := w.heap.size) hz)
    clear ow
    go_wp2_with fail
    go_ret2
    exact ⟨_, rfl, HO.out, nextW hb hb2⟩

end Go.Proofs.Ytkeajfgcjmhmiaa
