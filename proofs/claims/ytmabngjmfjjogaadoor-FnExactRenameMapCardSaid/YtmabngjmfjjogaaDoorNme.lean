/- Named maps: copies for a law, and whether two lists are alike. -/
import Derived.Test.YtmabngjmfjjogaaDoorNmd
namespace Go.Proofs.YtmabngjmfjjogaaDoor
open Go.RowKit

set_option maxRecDepth 100000 in
set_option maxHeartbeats 1600000 in
theorem toNamed_any (l : List UInt8) (mv : Value) (ps : List Pt) (w : World) (hv : RdP w mv ps) (hn : ps.length ≤ 1048576) :
    Calls Tryd.prog 70 #[.agg #[str l, mv]] w fun e w' => ∃ A cap, e = .returned (.agg #[.string ⟨l.toArray⟩, .slice A ps.length cap]) ∧ OwP w.heap.size 74 w' (.slice A ps.length cap) ps ∧ Below w.heap.size w w' := by
  have HV := Lib.hid hv
  obtain ⟨A0, c0, rfl, -, -, -⟩ := hv
  unfold str
  go_enter Tryd.func70, Tryd.ntmps70
  go_wp2_with fail
  refine (toPointS_any ps _ _ (HV.out.keep (by go_grown)) hn).mono ?_
  rintro e w1 ⟨r, rfl, ho, h1⟩
  obtain ⟨Ar, cr, hr, -, -⟩ := ownsRow_slice ho
  subst hr
  have hB : Below w.heap.size w w1 := nextX (by go_grown) h1
  have HO := Lib.hid (OwP.low ho (b := w.heap.size) (by go_size))
  have r0 : Slot w1 (w.heap.size + 1) 0 (.string ⟨#[]⟩) := slotB h1 ⟨by simp [go_sem], by simp [go_sem]⟩
  have r1 : Slot w1 (w.heap.size + 1) 1 (.slice none 0 0) := slotB h1 ⟨by simp [go_sem], by simp [go_sem]⟩
  have s0 : Slot w1 (w.heap.size + 2) 0 (.string ⟨l.toArray⟩) := slotB h1 ⟨by simp [go_sem], by simp [go_sem]⟩
  have s1 : Slot w1 (w.heap.size + 2) 1 (.slice none 0 0) := slotB h1 ⟨by simp [go_sem], by simp [go_sem]⟩
  have hdis : ∀ b, (Value.slice Ar ps.length cr).ownBlock = some b → b ≠ w.heap.size + 1 ∧ b ≠ w.heap.size + 2 := fun b hb => by
    have h := (World.ownsRow.lt ho b hb).1
    have h2 : w.heap.size + 2 < w1.heap.size := lt_of_cell s0.1
    have h3 : w.heap.size + 3 ≤ b := Nat.le_trans (by go_size) h
    omega
  clear h1 ho
  obtain ⟨q0, k0⟩ := r0
  obtain ⟨q1, k1⟩ := r1
  obtain ⟨p0, f0⟩ := s0
  obtain ⟨p1, f1⟩ := s1
  go_wp2_with fail
  refine bodyPost_ret (v := .agg #[.string ⟨l.toArray⟩, .slice Ar ps.length cr]) (by simp [results, Tryd.results70, go_sem, q0, q1]) rfl ⟨Ar, cr, rfl, ?_, ?_⟩
  · have key : ∀ (b o : Nat) (u : Value) (X : World), (b = w.heap.size + 1 ∨ b = w.heap.size + 2) → OwP w.heap.size 74 X (.slice Ar ps.length cr) ps → OwP w.heap.size 74 (X.setCell ⟨b, o, none⟩ u) (.slice Ar ps.length cr) ps := fun b o u X hb h => by
      refine h.keepU (g := b) ((But.refl b X).setCell _) ?_
      intro hh
      have := hdis b hh
      omega
    first
      | exact key _ _ _ _ (.inl rfl) (key _ _ _ _ (.inl rfl) (key _ _ _ _ (.inr rfl) HO.out))
      | exact key _ _ _ _ (.inl rfl) (key _ _ _ _ (.inl rfl) ((key _ _ _ _ (.inr rfl) HO.out).keep (by go_grown)))
  · go_grown

/-- The cells of a slice of named maps of which the first k are laid. -/
def fillN (ns : List Nm) (ms : List Value) (k j : Nat) : Value := (rowN (ns.take k) ms).getD j (if j % 2 = 0 then .string ByteArray.empty else .slice none 0 0)
theorem fillN_step {ns : List Nm} {ms : List Value} {k : Nat} {n : Nm} {r : Value} (hm : ms.length = k) (hk : k < ns.length) (h : ns[k]? = some n) {w : World} {g N : Nat} {t : TypeId} (hr : w.rowIs g t N (fillN ns ms k)) :
    ((w.setCell ⟨g, k * 2, none⟩ (str n.1)).setCell ⟨g, k * 2 + 1, none⟩ r).rowIs g t N (fillN ns (ms ++ [r]) (k + 1)) := by
  refine (World.rowIs.set (World.rowIs.set hr _ _) _ _).congr fun j _ => ?_
  have hl : (rowN (ns.take k) ms).length = k * 2 := by rw [rowN_len (by rw [List.length_take]; omega), List.length_take, Nat.min_eq_left (by omega)]
  have ha : rowN (ns.take (k + 1)) (ms ++ [r]) = rowN (ns.take k) ms ++ [str n.1, r] := by
    rw [snocT h, rowN_app (by rw [List.length_take]; omega)]; rfl
  unfold fillN
  rw [ha]
  simp only [List.getD_eq_getElem?_getD, List.getElem?_append, hl]
  by_cases h1 : j = k * 2 + 1
  · subst h1
    rw [if_pos rfl, if_neg (by omega), show k * 2 + 1 - k * 2 = 1 from by omega]
    rfl
  · rw [if_neg h1]
    by_cases h0 : j = k * 2
    · subst h0
      rw [if_pos rfl, if_neg (by omega), Nat.sub_self]
      rfl
    · rw [if_neg h0]
      by_cases hj : j < k * 2
      · simp [hj]
      · rw [if_neg hj, List.getElem?_eq_none (l := rowN (ns.take k) ms) (by omega), List.getElem?_eq_none (l := [str n.1, r]) (by simp; omega)]
theorem ownsN {base g : Nat} {w : World} {ns : List Nm} {ms : List Value} (hm : ms.length = ns.length) (h : w.rowIs g 89 (ns.length * 2) (fillN ns ms ns.length)) (hb : base ≤ g) (hl : ns.length ≤ maxLen) :
    w.ownsRow base 89 2 (.slice (some ⟨g, 0, none⟩) ns.length ns.length) ns.length (rowN ns ms) := by
  obtain ⟨c, hh, hs, hc⟩ := h
  have hrl := rowN_len hm
  refine ⟨hrl, .inr ⟨g, _, c, rfl, hb, hh, Nat.le_refl _, hl, hs, ?_⟩⟩
  apply List.ext_getElem?
  intro j
  rw [List.getElem?_take]
  split
  · rename_i hj
    rw [Array.getElem?_toList, hc j hj, fillN, List.take_length, List.getD_eq_getElem?_getD, List.getElem?_eq_getElem (by rw [hrl]; omega)]
    rfl
  · rename_i hj
    rw [List.getElem?_eq_none]
    rw [hrl]; omega
def zerosN (n : Nat) : Array Value := madeCells #[.string ByteArray.empty, .slice none 0 0] (n * 2)
theorem zerosN_at (n j : Nat) (h : j < n * 2) : (zerosN n)[j]? = some (if j % 2 = 0 then .string ByteArray.empty else .slice none 0 0) := by
  unfold zerosN madeCells
  have h4 : j % 2 = 0 ∨ j % 2 = 1 := by omega
  rcases h4 with h4 | h4 <;> simp [h, h4]
theorem zerosN_size (n : Nat) : (zerosN n).size = n * 2 := by unfold zerosN; exact size_madeCells _ _
theorem Tryd.infoN : (Tryd.prog.info? 89).map (fun i => (i.zero, i.size, i.bytes)) = some (some (.agg #[.string ByteArray.empty, .slice none 0 0]), 2, 40) := by kernel_rfl
theorem run_makeN (n : Nat) (hn : n ≤ 1048576) (w : World) : (Instr.makeSlice 46 (.int .i64 (n : Int)) (.int .i64 (n : Int))).run Tryd.prog w = .ok (.slice (some ⟨w.heap.size, 0, none⟩) n n) (w.alloc (.cells (zerosN n) 89)) := by
  obtain ⟨i, hi, hz, hs, hb⟩ := info_parts Tryd.infoN
  have h := run_make (P := Tryd.prog) w 46 89 i _ Tryd.underlying46 hi hz .i64 .i64 n n (by omega) (Int.le_refl _) (by rw [hb]; omega) (by omega)
  simp only [Int.toNat_natCast, hs] at h
  exact h

theorem sep_of {b1 b2 s1 s2 n1 n2 : Nat} {e1 e2 : TypeId} {w : World} {v u : Value} {xs ys : List Value} (h : w.ownsRow b1 e1 s1 v n1 xs) (k : w.ownsRow b2 e2 s2 u n2 ys) (he : e1 ≠ e2) : Sep v u := by
  intro b hv hu
  rcases h.2 with ⟨rfl, -⟩ | ⟨g, cap, cur, rfl, hb, hh, -⟩
  · simp [Value.ownBlock] at hv
  · rcases k.2 with ⟨rfl, -⟩ | ⟨g', cap', cur', rfl, hb', hh', -⟩
    · simp [Value.ownBlock] at hu
    · simp [Value.ownBlock] at hv hu
      subst hv
      subst hu
      rw [hh] at hh'
      simp only [Option.some.injEq, Obj.cells.injEq] at hh'
      exact he hh'.2.1

/-- A call that gives a row of named maps of its own. -/
def RetN (w : World) (ns : List Nm) (e : Ending) (w' : World) : Prop := ∃ r, e = .returned r ∧ OwN w.heap.size w' r ns ∧ Below w.heap.size w w'
theorem OwM.snoc {base B : Nat} {w w' : World} {ns : List Nm} {ms : List Value} {k : Nat} {n : Nm} {r : Value} (h : OwM base w (ns.take k) ms) (hx : ns[k]? = some n) (hb : Below w.heap.size w w') (ho : OwP B 74 w' r n.2) (hB : base ≤ B) (hB2 : w.heap.size ≤ B) : OwM base w' (ns.take (k + 1)) (ms ++ [r]) := by
  have hk : k < ns.length := (List.getElem?_eq_some_iff.1 hx).1
  have hl : ms.length = k := by have := h.1; rw [List.length_take] at this; omega
  rw [snocT hx]
  refine ⟨by simp [h.1], fun i n' m hn hm => ?_, fun i j m u hij hm hu => ?_⟩
  · rw [List.getElem?_append] at hn hm
    by_cases hi : i < k
    · rw [if_pos (by rw [List.length_take]; omega)] at hn
      rw [if_pos (by omega)] at hm
      exact (h.2.1 i n' m hn hm).keep hb
    · rw [if_neg (by rw [List.length_take]; omega)] at hn
      rw [if_neg (by omega)] at hm
      have hi2 : i = k := by
        have := (List.getElem?_eq_some_iff.1 hm).1
        simp at this
        omega
      subst hi2
      rw [hl, Nat.sub_self] at hm
      rw [List.length_take, Nat.min_eq_left (by omega), Nat.sub_self] at hn
      simp at hn hm
      subst hn
      subst hm
      exact ho.low hB
  · rw [List.getElem?_append] at hm hu
    by_cases hj : j < k
    · rw [if_pos (by omega)] at hm hu
      exact h.2.2 i j m u hij hm hu
    · rw [if_neg (by omega)] at hu
      have hj2 : j = k := by
        have := (List.getElem?_eq_some_iff.1 hu).1
        simp at this
        omega
      subst hj2
      rw [if_pos (by omega)] at hm
      rw [hl, Nat.sub_self] at hu
      simp at hu
      subst hu
      have hni : (ns.take j)[i]? = some ((ns.take j)[i]'(by rw [List.length_take]; omega)) := List.getElem?_eq_getElem _
      exact sep_rows (h.2.1 i _ m hni hm) ho hB2

def RelTn (ns : List Nm) (w : World) (i : Value) (wr : World) : Prop :=
  ∃ (k : Nat) (ms : List Value), k ≤ ns.length ∧ i = .int .i64 k ∧ wr.rowIs w.heap.size 89 (ns.length * 2) (fillN ns ms k) ∧ OwM (w.heap.size + 1) wr (ns.take k) ms ∧ Below w.heap.size w wr
theorem OwM.set {base g o : Nat} {u : Value} {w : World} {ns : List Nm} {ms : List Value} (h : OwM base w ns ms) (hg : g < base) : OwM base (w.setCell ⟨g, o, none⟩ u) ns ms :=
  ⟨h.1, fun i n m hn hm => (h.2.1 i n m hn hm).keepU ((But.refl g w).setCell _) (fun hh => by have := (World.ownsRow.lt (h.2.1 i n m hn hm) g hh).1; omega), h.2.2⟩
set_option maxRecDepth 100000 in
set_option maxHeartbeats 1600000 in
theorem toNamedS_any (ns : List Nm) (v : Value) (w : World) (hv : RdE w v ns) (hn : ns.length ≤ 1048576) (hm : ∀ n ∈ ns, n.2.length ≤ 1048576) :
    Calls Tryd.prog 29 #[v] w (RetN w ns) := by
  obtain ⟨A, c, rfl, hl, hmx, hcell⟩ := hv
  unfold maxLen at hmx
  have HC := Lib.hid hcell
  clear hcell
  have hmk := run_makeN ns.length hn
  go_enter Tryd.func29, Tryd.ntmps29
  go_wp2_with fail
  go_loopw [4] (fun i wr => RelTn ns w i wr) (fun i _ => ns.length - (intOf i).toNat)
  case atStart =>
    refine ⟨0, [], Nat.zero_le _, rfl, ?_, ⟨rfl, fun i n m h => by simp at h, fun i j m u _ h => by simp at h⟩, (Below.refl _ _).alloc (Nat.le_refl _) _⟩
    have h := World.rowIs_alloc w (zerosN ns.length) 89 (fun j => if j % 2 = 0 then .string ByteArray.empty else .slice none 0 0) (fun i hi => zerosN_at _ _ (by rw [zerosN_size] at hi; exact hi))
    rw [zerosN_size] at h
    exact h.congr fun j _ => by simp [fillN, rowN]
  case round =>
    obtain ⟨k, ms, hk, rfl, hrow, hms, hb⟩ := hrel
    clear hmk
    by_cases hlt : k < ns.length
    · obtain ⟨g, o, rfl, hg, hc⟩ := HC.out (by intro h; rw [h] at hlt; simp at hlt)
      have hx := List.getElem?_eq_getElem hlt
      generalize ns[k] = n at *
      obtain ⟨c0, mv, c1, hp⟩ := hc k n hx
      have hpl := hm n (List.mem_of_getElem? hx)
      have HP := Lib.hid (hp.keep hb)
      have HX := Lib.hid hx
      have HR := Lib.hid hrow
      have HM := Lib.hid hms
      have hml : ms.length = k := by have := hms.1; rw [List.length_take] at this; omega
      have hzr := hb.size
      have hlw : w.heap.size < wr.heap.size := hrow.lt
      replace c0 := cellB hb c0
      replace c1 := cellB hb c1
      have b0 : (0 : Int) ≤ (k : Int) := by omega
      have b1 : (k : Int) < (ns.length : Int) := by omega
      clear hc hp hx HC hrow hms
      go_wp2_with fail
      refine (toNamed_any n.1 mv n.2 _ (HP.out.keep (by go_grown)) hpl).mono ?_
      rintro e w1 ⟨Ar, cr, rfl, ho, h1⟩
      have hX : Below wr.heap.size wr w1 := nextX (by go_grown) h1
      have hrow : w1.rowIs w.heap.size 89 (ns.length * 2) (fillN ns ms k) := HR.out.of_block (hX.block _ HR.out.lt)
      have d0 := hrow.cell (show k * 2 < ns.length * 2 by omega)
      have d1 := hrow.cell (show k * 2 + 1 < ns.length * 2 by omega)
      have e0 := hrow.frozen (k * 2)
      have e1 := hrow.frozen (k * 2 + 1)
      have HS := Lib.hid (fillN_step (r := .slice Ar n.2.length cr) hml hlt HX.out hrow)
      have HM2 := Lib.hid (HM.out.snoc HX.out hX ho (by go_size) (by go_size))
      have hB := nextW hb hX
      clear hrow h1 hX ho c0 c1
      go_wp2_with fail
      go_roundw
      case rel => exact ⟨k + 1, ms ++ [.slice Ar n.2.length cr], by omega, by go_num, (by have := HS.out; unfold str at this; exact this), (HM2.out.set (by omega)).set (by omega), (hB.setCell (Nat.le_refl _) _).setCell (Nat.le_refl _) _⟩
      case measure => simp [intOf]; omega
    · obtain rfl : k = ns.length := by omega
      have HR := Lib.hid hrow
      have HM := Lib.hid hms
      clear hrow hms
      go_wp2_with fail
      go_ret
      have h := HM.out
      rw [List.take_length] at h
      exact ⟨_, rfl, ⟨ms, ownsN h.1 HR.out (Nat.le_refl _) (by unfold maxLen; omega), h.low (by omega)⟩, hb⟩

set_option maxRecDepth 100000 in
set_option maxHeartbeats 1600000 in
theorem eqNamed_same (l : List UInt8) (mv mu : Value) (ps : List Pt) (w : World) (hv : RdP w mv ps) (hu : RdP w mu ps) :
    Calls Tryd.prog 72 #[.agg #[str l, mv], .agg #[str l, mu]] w fun e w' => e = .returned (.bool true) ∧ Below w.heap.size w w' := by
  have hne : ∀ W, (binOp .neq 9 (str l) (str l)).run Tryd.prog W = .ok (.bool false) W := fun W => by unfold str; go_simp
  have heg : ∀ (W : World) (x y : Operand), (eqGuard .neq 9 x y (str l) (str l)).run Tryd.prog W = .ok () W := fun W x y => by unfold str; go_simp
  have HV := Lib.hid hv
  have HU := Lib.hid hu
  clear hv hu
  go_enter Tryd.func72, Tryd.ntmps72
  go_wp2_with fail
  refine (eqPointS_same ps mv mu _ (HV.out.keep (by go_grown)) (HU.out.keep (by go_grown))).mono ?_
  rintro e w1 ⟨rfl, h1⟩
  have hB : Below w.heap.size w w1 := nextX (by go_grown) h1
  clear h1
  go_wp2_with fail
  go_ret
  exact ⟨rfl, hB⟩
set_option maxRecDepth 100000 in
set_option maxHeartbeats 1600000 in
theorem eqNamedS_same (ns : List Nm) (v u : Value) (w : World) (hv : RdE w v ns) (hu : RdE w u ns) :
    Calls Tryd.prog 31 #[v, u] w fun e w' => e = .returned (.bool true) ∧ Below w.heap.size w w' := by
  obtain ⟨A, c, rfl, hl, hm, hcell⟩ := hv
  obtain ⟨A', c', rfl, hl', hm', hcell'⟩ := hu
  unfold maxLen at hm hm'
  have HC := Lib.hid hcell
  have HC' := Lib.hid hcell'
  clear hcell hcell'
  go_enter Tryd.func31, Tryd.ntmps31
  go_wp2_with fail
  go_loopw [5] (fun i wr => EqTo ns.length w i wr) (fun i _ => ns.length - (intOf i).toNat)
  case atStart => exact ⟨0, Nat.zero_le _, rfl, Below.refl _ _⟩
  case round =>
    obtain ⟨k, hk, rfl, hb⟩ := hrel
    by_cases hlt : k < ns.length
    · obtain ⟨g, o, rfl, hg, hc⟩ := HC.out (by intro h; rw [h] at hlt; simp at hlt)
      obtain ⟨g', o', rfl, hg', hc'⟩ := HC'.out (by intro h; rw [h] at hlt; simp at hlt)
      have hx := List.getElem?_eq_getElem hlt
      generalize ns[k] = n at *
      obtain ⟨c0, mv, c1, hp⟩ := hc k n hx
      obtain ⟨d0, mu, d1, hq⟩ := hc' k n hx
      have HP := Lib.hid (hp.keep hb)
      have HQ := Lib.hid (hq.keep hb)
      replace c0 := cellB hb c0
      replace c1 := cellB hb c1
      replace d0 := cellB hb d0
      replace d1 := cellB hb d1
      have b0 : (0 : Int) ≤ (k : Int) := by omega
      have b1 : (k : Int) < (ns.length : Int) := by omega
      clear hc hc' hp hq hx HC HC'
      go_wp2_with fail
      refine wp_region_below (by kernel_rfl) (by kernel_rfl) ?_
      iterate 10 (first
        | (refine stepS rfl ?_; simp only [Act.put, List.setIfInBounds_toArray, List.set_cons_zero, List.set_cons_succ])
        | (refine stepV (v := ?_) rfl (fun W hW => ?_) ?_
           rotate_left
           focus
             have qc0 := cellB hW.out c0
             have qc1 := cellB hW.out c1
             have qc2 := cellB hW.out d0
             have qc3 := cellB hW.out d1
             go_simp
             try with_reducible rfl
             done
           simp only [Act.put, List.setIfInBounds_toArray, List.set_cons_zero, List.set_cons_succ])
        | (refine stepC rfl (fun W hW => ?_) (fun W hW => callB hW (eqNamed_same n.1 mv mu n.2 W (HP.out.keep hW.out) (HQ.out.keep hW.out))) ?_
           focus
             go_simp
             try with_reducible rfl
             done
           simp only [Act.put, List.setIfInBounds_toArray, List.set_cons_zero, List.set_cons_succ]))
      refine stepN ?_
      intro w1 hw1
      have hB := nextW hb hw1.out
      clear hw1
      go_wp2_with fail
      go_roundw
      case rel => exact ⟨k + 1, by omega, by go_num, hB⟩
      case measure => simp [intOf]; omega
    · obtain rfl : k = ns.length := by omega
      go_wp2_with fail
      go_ret
      exact ⟨rfl, hb⟩

end Go.Proofs.YtmabngjmfjjogaaDoor
