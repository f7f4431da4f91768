/- multiplier of the program, under slopeAt's contract. -/
import Derived.Test.YtkdhhopfefhdjaaMulT
namespace Go.Proofs.Ytkdhhopfefhdjaa
open Go.RowKit

def RelMi (ps : List Pt) (l : List Q) (gm : Nat) (w : World) (i : Value) (wr : World) : Prop := ∃ j : Nat, j ≤ l.length ∧ i = .int .i64 j ∧ Slot wr gm 0 (.int .i64 (mulN ps l j).1.1) ∧ Slot wr gm 1 (.int .i64 (mulN ps l j).1.2) ∧ Slot wr (w.heap.size + 1) 0 (.bool (mulN ps l j).2) ∧ Slot wr w.heap.size 0 (.int .i64 0) ∧ Slot wr w.heap.size 1 (.int .i64 0) ∧ Below w.heap.size w wr
def mulL (ps : List Pt) (l : List Q) : Int × Int × Bool := if (mulN ps l l.length).2 = false then ((mulN ps l l.length).1.1, (mulN ps l l.length).1.2, true) else (0, 0, false)

set_option maxHeartbeats 1600000 in
theorem multiplier_is (ps : List Pt) (v r : Value) (l : List Q) (a b : Int) (t : Bool) (hl : mulL ps l = (a, b, t)) (hm : okMap ps = true) (hu : ∀ y ∈ l, unitQ y.1 y.2 = true) (w : World) (hv : RdP w v ps) (hr : RdQ w r l)
    (hS : ∀ (W : World) (q1 q2 s1 s2 : Int) (ts : Bool), RdP W v ps → unitQ q1 q2 = true → slAt ps (q1, q2) = ((s1, s2), ts) → Calls Try.prog 156 #[v, .agg #[.int .i64 q1, .int .i64 q2]] W fun e w' => e = .returned (.tuple #[.agg #[.int .i64 s1, .int .i64 s2], .bool ts]) ∧ Below W.heap.size W w') :
    Calls Try.prog 122 #[v, r] w (LowEnd a b t w) := by
  have HV := Lib.hid hv
  have HS := Lib.hid hS
  have HM := Lib.hid hm
  have HU := Lib.hid hu
  have HH := Lib.hid hl
  obtain ⟨A1, cap1, rfl, hc1, hc2, hcell1⟩ := hr
  unfold maxLen at hc2
  have HC := Lib.hid hcell1
  clear hv hS hm hu hl hcell1
  go_enter Try.func122, Try.ntmps122
  go_wp2_with fail
  refine (oneRat_any _).mono ?_
  rintro e w3 ⟨rfl, hb⟩
  have hX : Below w.heap.size w w3 := nextB (by go_grown) (by go_size) hb
  have c0 : Slot w3 (w.heap.size + 1) 0 (.bool false) := slotB hb ⟨by simp [go_sem], by simp [go_sem]⟩
  have r0 : Slot w3 w.heap.size 0 (.int .i64 0) := slotB hb ⟨by simp [go_sem], by simp [go_sem]⟩
  have r1 : Slot w3 w.heap.size 1 (.int .i64 0) := slotB hb ⟨by simp [go_sem], by simp [go_sem]⟩
  have zc := lt_of_cell c0.1
  have C0 := Lib.hid c0
  have R0 := Lib.hid r0
  have R1 := Lib.hid r1
  have HX3 := Lib.hid hX
  clear hb c0 r0 r1 hX
  go_wp2_with fail
  go_name_world W0 hW
  have hW0 : Below w3.heap.size w3 W0 := by rw [← hW]; go_grown
  have sm : Slot W0 w3.heap.size 0 (.int .i64 1) ∧ Slot W0 w3.heap.size 1 (.int .i64 1) := by rw [← hW]; exact slotNew _ _ _ _
  have SM := Lib.hid sm
  clear hW sm
  go_loopw [15] (fun i wr => RelMi ps l w3.heap.size w i wr) (fun i _ => l.length - (intOf i).toNat)
  case atStart => exact ⟨0, Nat.zero_le _, rfl, SM.out.1, SM.out.2, slotB hW0 C0.out, slotB hW0 R0.out, slotB hW0 R1.out, nextW HX3.out hW0⟩
  case round =>
    obtain ⟨j, hj, rfl, sm0, sm1, sc, rr0, rr1, hb⟩ := hrel
    have hzb := hb.size
    by_cases hlt : j < l.length
    · have hq := List.getElem?_eq_getElem hlt
      have hf := mulN_next (ps := ps) hq
      have hu := HU.out _ (List.mem_of_getElem? hq)
      generalize l[j] = q at *
      obtain ⟨q1, q2⟩ := q
      obtain ⟨g1, o1, rfl, hg1, hcc⟩ := HC.out (by intro e; rw [e] at hq; simp at hq)
      obtain ⟨c0, c1⟩ := hcc _ _ hq
      replace c0 := (hb.cell (p := ⟨g1, _, none⟩) hg1).trans c0
      replace c1 := (hb.cell (p := ⟨g1, _, none⟩) hg1).trans c1
      have hso := slAt_ok (x := (q1, q2)) HM.out hu
      rcases hsl : slAt ps (q1, q2) with ⟨⟨s1, s2⟩, ts⟩
      have hmo := mulN_ok ps l j
      rcases hm : mulN ps l j with ⟨⟨m1, m2⟩, bad⟩
      rw [hm] at sm0 sm1 sc hmo hf
      rw [hsl] at hf hso
      simp only at sm0 sm1 sc hf hso hmo
      rcases hmu : keepQ (mulQ m1 m2 s1 s2) with ⟨a1, a2⟩
      rw [hmu] at hf
      obtain ⟨bad1, hbad⟩ : ∃ x, (bad || !(mulQ m1 m2 s1 s2).2.2) = x := ⟨_, rfl⟩
      have HF := Lib.hid hf
      have HSl := Lib.hid hsl
      have HUq := Lib.hid hu
      have HMu := Lib.hid hmu
      have HBd := Lib.hid hbad
      clear hcc hq hf hu hso hsl hmo hm hmu hbad
      have zgm := lt_of_cell sm0.1
      have zgc := lt_of_cell sc.1
      have b1 : (0 : Int) ≤ (j : Int) := by omega
      have b2 : (j : Int) < (l.length : Int) := by omega
      go_wp2_with fail
      refine (HS.out _ q1 q2 s1 s2 ts (HV.out.keep (hb.trans (by go_grown))) HUq.out HSl.out).mono ?_
      rintro e w5 ⟨rfl, hb5⟩
      have hX5 : Below wr.heap.size wr w5 := nextX (by go_grown) hb5
      replace sm0 := slotB hX5 sm0
      replace sm1 := slotB hX5 sm1
      replace sc := slotB hX5 sc
      replace rr0 := slotB hX5 rr0
      replace rr1 := slotB hX5 rr1
      have hz5 := hX5.size
      replace hb := nextW hb hX5
      clear hb5 hX5 c0 c1
      rcases ts with _ | _
      · have hbad : (mulN ps l l.length).2 = true := by
          have h1 : (mulN ps l (j + 1)).2 = true := by rw [HF.out]; simp
          have h2 := mulN_bad h1 (l.length - (j + 1))
          rwa [show j + 1 + (l.length - (j + 1)) = l.length by omega] at h2
        obtain ⟨rfl, rfl, rfl⟩ : 0 = a ∧ 0 = b ∧ false = t := by have := HH.out; unfold mulL at this; rw [hbad] at this; simpa using this
        obtain ⟨z0, kz0⟩ := rr0
        obtain ⟨z1, kz1⟩ := rr1
        have zq := lt_of_cell z0
        clear sm0 sm1 sc hbad
        go_wp2_with fail
        refine bodyPost_ret (v := .tuple #[.agg #[.int .i64 0, .int .i64 0], .bool false]) (by simp [results, Try.results122, go_sem, z0, z1, zq]) rfl ⟨rfl, ?_⟩
        go_grown
      · have m0 := sm0.1
        have m9 := sm1.1
        have zg5 := lt_of_cell m0
        have zg6 := lt_of_cell sc.1
        have SM0 := Lib.hid sm0
        have SM1 := Lib.hid sm1
        have SC := Lib.hid sc
        have RR0 := Lib.hid rr0
        have RR1 := Lib.hid rr1
        clear sm0 sm1 sc rr0 rr1
        go_wp2_with fail
        refine (cMul_any m1 m2 s1 s2 a1 a2 bad bad1 (w.heap.size + 1) _ (slotA _ SC.out) HMu.out HBd.out).mono ?_
        rintro e w7 ⟨rfl, g7, k7⟩
        have kB : But (w.heap.size + 1) w5 w7 := But.trans (But.alloc (But.refl _ _) _) k7
        obtain ⟨e0, f0⟩ := slotU kB (by omega) SM0.out
        obtain ⟨e1, f1⟩ := slotU kB (by omega) SM1.out
        have rr0 := slotU kB (by omega) RR0.out
        have rr1 := slotU kB (by omega) RR1.out
        have hb7 : Below w.heap.size w w7 := below_but hb kB (by omega)
        have G7 := Lib.hid g7
        have Q0 := Lib.hid rr0
        have Q1 := Lib.hid rr1
        have hff : mulN ps l (j + 1) = ((a1, a2), bad1) := by rw [HF.out, ← HBd.out]; rfl
        have HFF := Lib.hid hff
        clear m0 m9 g7 k7 rr0 rr1 hff
        go_wp2_with fail
        go_roundw
        case rel =>
          have hs := stored2 ⟨e0, f0⟩ ⟨e1, f1⟩ (.int .i64 a1) (.int .i64 a2)
          refine ⟨j + 1, by omega, by go_num, ?_, ?_, ?_, ?_, ?_, by go_grown⟩
          · rw [HFF.out]; exact hs.1
          · rw [HFF.out]; exact hs.2
          · rw [HFF.out]; refine slotS (slotS G7.out ?_) ?_ <;> simp <;> omega
          · refine slotS (slotS Q0.out ?_) ?_ <;> simp <;> omega
          · refine slotS (slotS Q1.out ?_) ?_ <;> simp <;> omega
        case measure => simp [intOf]; omega
    · obtain rfl : j = l.length := by omega
      rcases hm : mulN ps l l.length with ⟨⟨m1, m2⟩, bad⟩
      have hhh := HH.out
      unfold mulL at hhh
      rw [hm] at hhh sm0 sm1 sc
      simp only at sm0 sm1 sc
      have h0 := sm0.1
      have h1 := sm1.1
      have h2 := sc.1
      obtain ⟨z0, kz0⟩ := rr0
      obtain ⟨z1, kz1⟩ := rr1
      clear sm0 sm1 sc hm
      rcases bad with _ | _
      · obtain ⟨rfl, rfl, rfl⟩ : m1 = a ∧ m2 = b ∧ true = t := by simpa using hhh
        go_wp2_with fail
        refine bodyPost_ret (v := .tuple #[.agg #[.int .i64 m1, .int .i64 m2], .bool true]) (by simp [results, Try.results122, go_sem, z0, z1]) rfl ⟨rfl, ?_⟩
        go_grown
      · obtain ⟨rfl, rfl, rfl⟩ : 0 = a ∧ 0 = b ∧ false = t := by simpa using hhh
        go_wp2_with fail
        refine bodyPost_ret (v := .tuple #[.agg #[.int .i64 0, .int .i64 0], .bool false]) (by simp [results, Try.results122, go_sem, z0, z1]) rfl ⟨rfl, ?_⟩
        go_grown

set_option maxHeartbeats 800000 in
theorem iMultiplierAt_of (ps : List Pt) (v : Value) (x1 x2 n a b : Int) (t : Bool) (hl : multQ ps (x1, x2) n = (a, b, t)) (hm : (cycQ ps (x1, x2) n).2 = true → okMap ps = true) (w : World) (hv : RdP w v ps) (hn : ps.length ≤ 1048576)
    (hS : ∀ (W : World) (q1 q2 s1 s2 : Int) (ts : Bool), RdP W v ps → okMap ps = true → unitQ q1 q2 = true → slAt ps (q1, q2) = ((s1, s2), ts) → Calls Try.prog 156 #[v, .agg #[.int .i64 q1, .int .i64 q2]] W fun e w' => e = .returned (.tuple #[.agg #[.int .i64 s1, .int .i64 s2], .bool ts]) ∧ Below W.heap.size W w') :
    Calls Try.prog 72 #[v, .agg #[.int .i64 x1, .int .i64 x2], .int .i64 n] w (LowEnd a b t w) := by
  have HV := Lib.hid hv
  have HS := Lib.hid hS
  have HM := Lib.hid hm
  rcases ho : cycQ ps (x1, x2) n with ⟨l, tt⟩
  have HL := Lib.hid ho
  unfold multQ at hl
  rw [ho] at hl
  simp only at hl
  rcases tt with _ | _
  · obtain ⟨rfl, rfl, rfl⟩ : 0 = a ∧ 0 = b ∧ false = t := by simpa using hl
    clear hl ho hv hS hm
    go_enter Try.func72, Try.ntmps72
    go_wp2_with fail
    refine (cycleFrom_is ps v x1 x2 n l false HL.out _ (HV.out.keep (by go_grown)) hn).mono ?_
    rintro e w1 ⟨ra, rfl, ow, hb⟩
    have hX : Below w.heap.size w w1 := nextX (by go_grown) hb
    have b00 : w1.cell? ⟨w.heap.size, 0, none⟩ = some (.int .i64 x1) := cellB hb (by simp [go_sem])
    have b01 : w1.cell? ⟨w.heap.size, 1, none⟩ = some (.int .i64 x2) := cellB hb (by simp [go_sem])
    have r10 : Slot w1 (w.heap.size + 1) 0 (.int .i64 0) := slotB hb ⟨by simp [go_sem], by simp [go_sem]⟩
    have r11 : Slot w1 (w.heap.size + 1) 1 (.int .i64 0) := slotB hb ⟨by simp [go_sem], by simp [go_sem]⟩
    have zb00 := lt_of_cell b00
    have zr10 := lt_of_cell r10.1
    have hB : Below w.heap.size w w1 := hX
    clear hb hX
    obtain ⟨q0, k0⟩ := r10
    obtain ⟨q1, k1⟩ := r11
    go_wp2_with fail
    refine bodyPost_ret (v := .tuple #[.agg #[.int .i64 0, .int .i64 0], .bool false]) (by first | (simp [results, Try.results72, go_sem, q0, q1]; done) | (simp [results, Try.results72, go_sem, q0, q1, zr10]; done)) rfl ⟨rfl, ?_⟩
    go_grown
  · have HH := Lib.hid (show mulL ps l = (a, b, t) by unfold mulL; rw [← hl]; simp)
    have HU := Lib.hid (cycQ_mem ho).1
    have HMM := Lib.hid (hm (by rw [ho]))
    clear hl ho hv hS hm
    go_enter Try.func72, Try.ntmps72
    go_wp2_with fail
    refine (cycleFrom_is ps v x1 x2 n l true HL.out _ (HV.out.keep (by go_grown)) hn).mono ?_
    rintro e w1 ⟨ra, rfl, ow, hb⟩
    have hX : Below w.heap.size w w1 := nextX (by go_grown) hb
    have b00 : w1.cell? ⟨w.heap.size, 0, none⟩ = some (.int .i64 x1) := cellB hb (by simp [go_sem])
    have b01 : w1.cell? ⟨w.heap.size, 1, none⟩ = some (.int .i64 x2) := cellB hb (by simp [go_sem])
    have r10 : Slot w1 (w.heap.size + 1) 0 (.int .i64 0) := slotB hb ⟨by simp [go_sem], by simp [go_sem]⟩
    have r11 : Slot w1 (w.heap.size + 1) 1 (.int .i64 0) := slotB hb ⟨by simp [go_sem], by simp [go_sem]⟩
    have zb00 := lt_of_cell b00
    have zr10 := lt_of_cell r10.1
    have hB : Below w.heap.size w w1 := hX
    clear hb hX
    go_wp2_with fail
    refine (multiplier_is ps v _ l a b t HH.out HMM.out HU.out _ (HV.out.keep (nextX hB (by go_grown))) (ow.read.keep (by go_grown)) (fun W q1 q2 s1 s2 ts h1 h2 h3 => HS.out W q1 q2 s1 s2 ts h1 HMM.out h2 h3)).mono ?_
    rintro e w2 ⟨rfl, hb⟩
    have hX : Below w1.heap.size w1 w2 := nextX (by go_grown) hb
    replace b00 := cellB hX b00
    replace b01 := cellB hX b01
    replace r10 := slotB hX r10
    replace r11 := slotB hX r11
    replace ow := ow.keep hX
    have zb00 := Nat.lt_of_lt_of_le zb00 hX.size
    have zr10 := Nat.lt_of_lt_of_le zr10 hX.size
    replace hB := nextW hB hX
    clear hb hX
    obtain ⟨q0, k0⟩ := r10
    obtain ⟨q1, k1⟩ := r11
    go_wp2_with fail
    refine bodyPost_ret (v := .tuple #[.agg #[.int .i64 a, .int .i64 b], .bool t]) (by first | (simp [results, Try.results72, go_sem, q0, q1]; done) | (simp [results, Try.results72, go_sem, q0, q1, zr10]; done)) rfl ⟨rfl, ?_⟩
    go_grown

end Go.Proofs.Ytkdhhopfefhdjaa
