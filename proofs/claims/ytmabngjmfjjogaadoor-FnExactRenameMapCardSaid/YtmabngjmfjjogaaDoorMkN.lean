/- Rows of named maps in a law: marked, held. -/
import Derived.Test.YtmabngjmfjjogaaDoorFgt
namespace Go.Proofs.YtmabngjmfjjogaaDoor
open Go.RowKit

/-- What lies between two marks may have changed. -/
structure ButR (lo hi : Nat) (w w' : World) : Prop where
  os : w'.os = w.os
  tape : w'.tape = w.tape
  output : w'.output = w.output
  size : w.heap.size ≤ w'.heap.size
  block : ∀ k, k < w.heap.size → (k < lo ∨ hi ≤ k) → w'.heap[k]? = w.heap[k]?
theorem ButR.refl (lo hi : Nat) (w : World) : ButR lo hi w w := ⟨rfl, rfl, rfl, Nat.le_refl _, fun _ _ _ => rfl⟩
theorem ButR.trans {lo hi : Nat} {w w1 w2 : World} (h : ButR lo hi w w1) (k : ButR lo hi w1 w2) : ButR lo hi w w2 :=
  ⟨k.os.trans h.os, k.tape.trans h.tape, k.output.trans h.output, Nat.le_trans h.size k.size, fun j hj hn => (k.block j (Nat.lt_of_lt_of_le hj h.size) hn).trans (h.block j hj hn)⟩
theorem ButR.of_below {lo hi : Nat} {w w' : World} (h : Below w.heap.size w w') : ButR lo hi w w' := ⟨h.os, h.tape, h.output, h.size, fun k hk _ => h.block k hk⟩
theorem ButR.of_but {lo hi g : Nat} {w w' : World} (h : But g w w') (hg : (lo ≤ g ∧ g < hi) ∨ w.heap.size ≤ g) : ButR lo hi w w' :=
  ⟨h.os, h.tape, h.output, h.size, fun k hk hn => h.block k hk (by omega)⟩
theorem ButR.below {lo hi B : Nat} {w0 w w' : World} (hB : Below B w0 w) (h : ButR lo hi w w') (hl : B ≤ lo) (hs : B ≤ w.heap.size) : Below B w0 w' :=
  ⟨h.os.trans hB.os, h.tape.trans hB.tape, h.output.trans hB.output, Nat.le_trans hB.size h.size, fun k hk => (h.block k (Nat.lt_of_lt_of_le hk hs) (.inl (by omega))).trans (hB.block k hk)⟩
/-- What was there at the start is as it was. -/
theorem ButR.keepB {lo hi : Nat} {w0 w w' : World} (hB : Below w0.heap.size w0 w) (h : ButR lo hi w w') (hl : w0.heap.size ≤ lo) : Below w0.heap.size w0 w' := h.below hB hl hB.size
theorem ownsRow_keepR {lo hi base : Nat} {e : TypeId} {size n : Nat} {w w' : World} {v : Value} {xs : List Value} (h : w.ownsRow base e size v n xs) (hb : ButR lo hi w w') (hn : ∀ b, v.ownBlock = some b → b < lo ∨ hi ≤ b) : w'.ownsRow base e size v n xs := by
  obtain ⟨h1, h2⟩ := h
  refine ⟨h1, h2.imp id fun ⟨g, cap, cur, h3, h4, h5, h6⟩ => ⟨g, cap, cur, h3, h4, ?_, h6⟩⟩
  subst h3
  rw [hb.block g (Array.getElem?_eq_some_iff.1 h5).1 (hn g rfl)]
  exact h5

/-- A row of named maps whose blocks all lie from lo up to hi. -/
def OwNB (lo hi : Nat) (w : World) (v : Value) (ns : List Nm) : Prop :=
  ∃ ms : List Value, w.ownsRow lo 89 2 v ns.length (rowN ns ms) ∧ OwM lo w ns ms ∧ (∀ b, v.ownBlock = some b → b < hi) ∧ ∀ m ∈ ms, ∀ b, m.ownBlock = some b → b < hi
theorem OwN.bnd {lo : Nat} {w : World} {v : Value} {ns : List Nm} (h : OwN lo w v ns) : OwNB lo w.heap.size w v ns := by
  obtain ⟨ms, h1, h2⟩ := h
  refine ⟨ms, h1, h2, fun b hb => (World.ownsRow.lt h1 b hb).2, fun m hm b hb => ?_⟩
  obtain ⟨i, hi⟩ := List.getElem?_of_mem hm
  have hil : i < ns.length := by have := (List.getElem?_eq_some_iff.1 hi).1; have := h2.1; omega
  exact (World.ownsRow.lt (h2.2.1 i _ m (List.getElem?_eq_getElem hil) hi) b hb).2
theorem OwNB.own {lo hi : Nat} {w : World} {v : Value} {ns : List Nm} (h : OwNB lo hi w v ns) : OwN lo w v ns := by
  obtain ⟨ms, h1, h2, -⟩ := h
  exact ⟨ms, h1, h2⟩
theorem OwNB.keep {lo hi : Nat} {w w' : World} {v : Value} {ns : List Nm} (h : OwNB lo hi w v ns) (hb : Below w.heap.size w w') : OwNB lo hi w' v ns := by
  obtain ⟨ms, h1, h2, h3⟩ := h
  exact ⟨ms, ownsRow_keep h1 hb, h2.keep hb, h3⟩
theorem OwNB.keepR {lo hi a b : Nat} {w w' : World} {v : Value} {ns : List Nm} (h : OwNB lo hi w v ns) (hb : ButR a b w w') (hd : hi ≤ a ∨ b ≤ lo) : OwNB lo hi w' v ns := by
  obtain ⟨ms, h1, h2, h3, h4⟩ := h
  have out : ∀ k, lo ≤ k → k < hi → k < a ∨ b ≤ k := fun k h1 h2 => by omega
  refine ⟨ms, ownsRow_keepR h1 hb (fun k hk => out k (World.ownsRow.lt h1 k hk).1 (h3 k hk)), ⟨h2.1, fun i n m hn hm => ?_, h2.2.2⟩, h3, h4⟩
  have h5 := h2.2.1 i n m hn hm
  exact ownsRow_keepR h5 hb (fun k hk => out k (World.ownsRow.lt h5 k hk).1 (h4 m (List.mem_of_getElem? hm) k hk))

/-- Marked points. -/
def mkP (k : Int) : Nat → List Pt
  | 0 => []
  | n + 1 => mkP k n ++ [((k + ((n * 4 : Nat) : Int), k + ((n * 4 + 1 : Nat) : Int)), (k + ((n * 4 + 2 : Nat) : Int), k + ((n * 4 + 3 : Nat) : Int)))]
theorem mkP_len (k : Int) : ∀ n, (mkP k n).length = n
  | 0 => rfl
  | n + 1 => by rw [mkP, List.length_append, mkP_len k n]; rfl
theorem rowP_mkP (k : Int) : ∀ n, rowP (mkP k n) = marks k (n * 4)
  | 0 => rfl
  | n + 1 => by
    rw [mkP, rowP_app, rowP_mkP k n, show (n + 1) * 4 = n * 4 + 1 + 1 + 1 + 1 from by omega]
    simp only [marks, rowP, List.flatMap_cons, List.flatMap_nil, List.append_nil, List.append_assoc, List.cons_append, List.nil_append]
/-- The decimal digits of a number, none of nought. -/
def digs (k : Nat) : List UInt8 := if k = 0 then [] else Lib.decDigits k
theorem digs_step {k : Nat} (h : 0 < k) : digs k = digs (k / 10) ++ [UInt8.ofNat (48 + k % 10)] := by
  unfold digs
  rw [if_neg (by omega)]
  by_cases h1 : k < 10
  · rw [if_pos (by omega), Lib.decDigits_one h1, List.nil_append, Nat.mod_eq_of_lt h1]
  · rw [if_neg (by omega)]
    conv => lhs; rw [Lib.decDigits]
    rw [dif_neg h1]
theorem digs_len {k : Nat} (h : k ≤ 1000000000) : (digs k).length ≤ 20 := by
  unfold digs
  split
  · simp
  · rw [Lib.decDigits_length]; exact Lib.nDigits_le20 _ (by omega)
def mkT (k : Nat) : List UInt8 := 109 :: digs k
def mkN (k : Nat) : List Nm → List Nm
  | [] => []
  | n :: ns => (mkT k, mkP ((k + 1 : Nat) : Int) n.2.length) :: mkN (k + 1 + n.2.length * 4) ns
def mkK (k : Nat) (ns : List Nm) : Nat := k + (ns.map fun n => 1 + n.2.length * 4).sum
theorem mkN_len (ns : List Nm) : ∀ k, (mkN k ns).length = ns.length := by
  induction ns with
  | nil => intro k; rfl
  | cons n r ih => intro k; simp [mkN, ih]
theorem mkN_app (ns ms : List Nm) : ∀ k, mkN k (ns ++ ms) = mkN k ns ++ mkN (mkK k ns) ms := by
  induction ns with
  | nil => intro k; simp [mkN, mkK]
  | cons n r ih =>
    intro k
    have e : mkK k (n :: r) = mkK (k + 1 + n.2.length * 4) r := by unfold mkK; simp only [List.map_cons, List.sum_cons]; omega
    simp only [List.cons_append, mkN, ih, e]
theorem mkK_snoc {ns : List Nm} {j k : Nat} {n : Nm} (h : ns[j]? = some n) : mkK k (ns.take (j + 1)) = mkK k (ns.take j) + 1 + n.2.length * 4 := by
  unfold mkK; rw [snocT h, List.map_append, List.sum_append]; simp; omega
theorem mkK_take (ns : List Nm) (k : Nat) : ∀ j, mkK k (ns.take j) ≤ mkK k ns := fun j => by
  have : mkK k ns = mkK k (ns.take j) + ((ns.drop j).map fun n => 1 + n.2.length * 4).sum := by
    unfold mkK; rw [Nat.add_assoc, ← List.sum_append, ← List.map_append, List.take_append_drop]
  omega
theorem mkN_at {ns : List Nm} {j k : Nat} {n : Nm} (h : ns[j]? = some n) : (mkN k ns)[j]? = some (mkT (mkK k (ns.take j)), mkP ((mkK k (ns.take j) + 1 : Nat) : Int) n.2.length) := by
  have hj := (List.getElem?_eq_some_iff.1 h).1
  have e : ns = ns.take j ++ n :: ns.drop (j + 1) := by
    have := List.take_append_drop j ns
    rw [List.drop_eq_getElem_cons hj] at this
    have h2 : ns[j] = n := by rw [List.getElem?_eq_getElem hj] at h; exact Option.some.inj h
    rw [h2] at this
    exact this.symm
  conv => lhs; rw [e]
  rw [mkN_app, List.getElem?_append_right (by rw [mkN_len, List.length_take]; omega), mkN_len, List.length_take, Nat.min_eq_left (by omega), Nat.sub_self]
  rfl

def RelMx (k0 : Nat) (w : World) (kv out : Value) (wr : World) : Prop := ∃ (k : Nat) (o : List UInt8), kv = .int .i64 k ∧ out = str o ∧ k ≤ k0 ∧ digs k0 = digs k ++ o ∧ Below w.heap.size w wr
set_option maxRecDepth 100000 in
set_option maxHeartbeats 1600000 in
theorem markText_is (k0 : Nat) (w : World) (h0 : 0 < k0) (h1 : k0 ≤ 1000000000) :
    Calls Tryd.prog 78 #[.int .i64 k0] w fun e w' => e = .returned (str (mkT k0)) ∧ Below w.heap.size w w' := by
  have hlen := digs_len h1
  have b0 : ¬ (k0 : Int) ≤ 0 := by omega
  have b0' : decide ((k0 : Int) ≤ 0) = false := by simpa using b0
  go_enter Tryd.func78, Tryd.ntmps78
  go_wp2_with fail
  go_loopw [0, 3] (fun kv out wr => RelMx k0 w kv out wr) (fun kv _ _ => (intOf kv).toNat)
  case atStart => exact ⟨k0, [], rfl, rfl, Nat.le_refl _, by simp, by go_grown⟩
  case round =>
    obtain ⟨k, o, rfl, rfl, hk, hd, hb⟩ := hrel
    have hzr := hb.size
    have hol : (digs k).length + o.length ≤ 20 := by rw [hd, List.length_append] at hlen; exact hlen
    have HD := Lib.hid hd
    clear hd
    by_cases hlt : 0 < k
    · have hst := Lib.hid (digs_step hlt)
      have c0 : (0 : Int) < (k : Int) := by omega
      have v2 : (k : Int).tmod 10 = (k : Int) % 10 := Int.tmod_eq_emod_of_nonneg (by omega)
      have v3 : IntKind.i64.wrap ((k : Int) % 10) = (k : Int) % 10 := IntWalk.i64_in _ (by omega)
      have v4 : IntKind.i64.wrap (48 + (k : Int) % 10) = 48 + (k : Int) % 10 := IntWalk.i64_in _ (by omega)
      have v5 : IntKind.u8.wrap (48 + (k : Int) % 10) = 48 + (k : Int) % 10 := IntWalk.u8_in _ (by omega)
      have v6 : (k : Int).tdiv 10 = ((k / 10 : Nat) : Int) := by rw [Int.tdiv_eq_ediv_of_nonneg (by omega)]; omega
      have v7 : IntKind.i64.wrap ((k / 10 : Nat) : Int) = ((k / 10 : Nat) : Int) := IntWalk.i64_in _ (by omega)
      have v8 : IntKind.i64.wrap ((k : Int) / 10) = ((k / 10 : Nat) : Int) := by rw [IntWalk.i64_in _ (by omega)]; omega
      obtain ⟨c, hc⟩ : ∃ c, c = UInt8.ofNat (48 + k % 10) := ⟨_, rfl⟩
      have hcv : ∀ (W : World) (g : Nat), W.cell? ⟨g, 0, none⟩ = some (.int .u8 (48 + (k : Int) % 10)) → (convert 57 9 (.slice (some ⟨g, 0, none⟩) 1 1)).run Tryd.prog W = .ok (.string ⟨#[c]⟩) W := fun W g hw => by
        rw [run_str1 W g _ (by omega) hw, hc]
        have : (48 + (k : Int) % 10).toNat = 48 + k % 10 := by omega
        rw [this]
      have hcat : ∀ W, (binOp .add 9 (.string ⟨#[c]⟩) (str o)).run Tryd.prog W = .ok (str (c :: o)) W := fun W => run_cat W [c] o (by simp) (by omega)
      have HC := Lib.hid hc
      clear hc
      go_wp2_with fail
      go_roundw
      case rel => exact ⟨k / 10, c :: o, by go_num, rfl, by omega, by rw [HD.out, hst.out, HC.out]; simp, by go_grown⟩
      case measure => simp [intOf] <;> omega
    · obtain rfl : k = 0 := by omega
      have ho : digs k0 = o := by have := HD.out; simpa [digs] using this
      have hcat : ∀ W, (binOp .add 9 (.string ⟨#[109]⟩) (str o)).run Tryd.prog W = .ok (str (mkT k0)) W := fun W => by
        have := run_cat W [109] o (by simp) (by omega)
        unfold mkT
        rw [ho]
        exact this
      go_wp2_with fail
      go_ret
      exact ⟨rfl, by go_grown⟩

theorem mark_set {ns : List Nm} {k j : Nat} {n : Nm} (h : ns[j]? = some n) : (mkN k (ns.take j) ++ ns.drop j).set j (mkT (mkK k (ns.take j)), mkP ((mkK k (ns.take j) + 1 : Nat) : Int) n.2.length) = mkN k (ns.take (j + 1)) ++ ns.drop (j + 1) := by
  have hj := (List.getElem?_eq_some_iff.1 h).1
  have hl : (mkN k (ns.take j)).length = j := by rw [mkN_len, List.length_take]; omega
  rw [List.set_append_right _ _ (by omega), hl, Nat.sub_self, List.drop_eq_getElem_cons hj, List.set_cons_zero, snocT h, mkN_app, List.append_assoc]
  rfl
theorem rowN_name : ∀ {ns : List Nm} {ms : List Value} {j : Nat} {n : Nm} (l : List UInt8), ms.length = ns.length → ns[j]? = some n → (rowN ns ms).set (j * 2) (str l) = rowN (ns.set j (l, n.2)) ms
  | n :: ns, m :: ms, 0, _, l, _, h => by simp at h; subst h; rfl
  | n :: ns, m :: ms, j + 1, n', l, hl, h => by
    have := rowN_name (ns := ns) (ms := ms) (j := j) l (by simpa using hl) (by simpa using h)
    rw [show (j + 1) * 2 = j * 2 + 1 + 1 from by omega]
    simp only [rowN, List.set_cons_succ, this]
  | [], _, j, _, _, _, h => by simp at h
theorem rowN_map {ns : List Nm} {ms : List Value} {j : Nat} {l : List UInt8} {ps qs : List Pt} (h : ns[j]? = some (l, ps)) : rowN (ns.set j (l, qs)) ms = rowN ns ms := by
  induction ns generalizing ms j with
  | nil => simp at h
  | cons n r ih =>
    cases j with
    | zero =>
      simp at h
      subst h
      cases ms <;> rfl
    | succ j =>
      cases ms with
      | nil => rfl
      | cons m ms => simp only [List.set_cons_succ, rowN, ih (by simpa using h)]
/-- Element j's map is marked: all else of the row stands. -/
theorem OwM.mark {lo g : Nat} {w w' : World} {ns : List Nm} {ms : List Value} {j : Nat} {l l' : List UInt8} {ps qs : List Pt} {m : Value} (h : OwM lo w ns ms) (hn : ns[j]? = some (l, ps)) (hm : ms[j]? = some m) (hb : But g w w') (hg : m.ownBlock = some g ∨ w.heap.size ≤ g) (ho : OwP lo 74 w' m qs) : OwM lo w' (ns.set j (l', qs)) ms := by
  refine ⟨by rw [List.length_set]; exact h.1, fun i n u hi hu => ?_, h.2.2⟩
  rw [List.getElem?_set] at hi
  by_cases hij : j = i
  · subst hij
    rw [if_pos rfl, if_pos (List.getElem?_eq_some_iff.1 hn).1] at hi
    rw [hm] at hu
    cases hi
    cases hu
    exact ho
  · rw [if_neg hij] at hi
    have h1 := h.2.1 i n u hi hu
    refine h1.keepU hb ?_
    rcases hg with hg | hg
    · rcases Nat.lt_or_gt_of_ne hij with hlt | hlt
      · exact h.2.2 j i m u hlt hm hu g hg
      · intro hh; exact h.2.2 i j u m hlt hu hm g hh hg
    · intro hh
      have := (World.ownsRow.lt h1 g hh).2
      omega
def RelMn (ns : List Nm) (k lo hi : Nat) (v : Value) (w : World) (q i : Value) (wr : World) : Prop :=
  ∃ j kk : Nat, j ≤ ns.length ∧ i = .int .i64 j ∧ q = .int .i64 kk ∧ kk = mkK k (ns.take j) ∧ OwNB lo hi wr v (mkN k (ns.take j) ++ ns.drop j) ∧ ButR lo hi w wr
set_option maxRecDepth 100000 in
set_option maxHeartbeats 3200000 in
theorem markNamedS_is (lo hi k : Nat) (ns : List Nm) (v : Value) (w : World) (hown : OwNB lo hi w v ns) (hk : 0 < k ∧ mkK k ns ≤ 100000000) (hn : ns.length ≤ 1048576) (hm : ∀ n ∈ ns, n.2.length ≤ 1048576) (hlo : lo ≤ w.heap.size) :
    Calls Tryd.prog 36 #[v, .int .i64 k] w fun e w' => e = .returned (.int .i64 (mkK k ns)) ∧ OwNB lo hi w' v (mkN k ns) ∧ ButR lo hi w w' := by
  obtain ⟨A, cap, hv, hcap1, hcap2⟩ := ownsRow_slice hown.choose_spec.1
  subst hv
  unfold maxLen at hcap2
  have HW := Lib.hid hown
  clear hown
  go_enter Tryd.func36, Tryd.ntmps36
  go_wp2_with fail
  go_loopw [1, 5] (fun q i wr => RelMn ns k lo hi (.slice A ns.length cap) w q i wr) (fun _ i _ => ns.length - (intOf i).toNat)
  case atStart => exact ⟨0, k, Nat.zero_le _, rfl, rfl, by simp [mkK], by simpa [mkN] using HW.out, ButR.refl _ _ _⟩
  case round =>
    obtain ⟨j, kk, hj, rfl, rfl, hkk, hown, hbr⟩ := hrel
    have hzr := hbr.size
    have HB := Lib.hid hbr
    have HKK := Lib.hid hkk
    by_cases hlt : j < ns.length
    · have hx := List.getElem?_eq_getElem hlt
      generalize ns[j] = n at *
      have hpl := hm n (List.mem_of_getElem? hx)
      have hks := mkK_snoc (k := k) hx
      have hkt := mkK_take ns k (j + 1)
      have hk0 : k ≤ kk := by rw [hkk]; unfold mkK; omega
      have hkb : kk + 1 + n.2.length * 4 ≤ 100000000 := by omega
      have HKs := Lib.hid (show kk + 1 + n.2.length * 4 = mkK k (ns.take (j + 1)) by omega)
      clear hks hkt
      obtain ⟨ms, hr, hmm, hb1, hb2⟩ := hown
      have hll : (mkN k (ns.take j) ++ ns.drop j).length = ns.length := by rw [List.length_append, mkN_len, List.length_take, List.length_drop]; omega
      have hxj : (mkN k (ns.take j) ++ ns.drop j)[j]? = some n := by
        have hl : (mkN k (ns.take j)).length = j := by rw [mkN_len, List.length_take]; omega
        rw [List.getElem?_append_right (by omega), hl, Nat.sub_self, List.getElem?_drop, Nat.add_zero]
        exact hx
      rw [hll] at hr
      obtain ⟨g, cap', hv, -, -, hg1, hg2, hcell, hfz⟩ := ownsRow_lit hr (by omega)
      simp only [Value.slice.injEq, true_and] at hv
      obtain ⟨rfl, rfl⟩ := hv
      have hml := hmm.1
      have hmj : ms[j]? = some ms[j] := List.getElem?_eq_getElem (by omega)
      obtain ⟨d0, d1⟩ := rowN_get hxj hmj
      have c0 : wr.cell? ⟨g, j * 2, none⟩ = some (str n.1) := by rw [hcell _ (by omega)]; exact d0
      have c1 : wr.cell? ⟨g, j * 2 + 1, none⟩ = some ms[j] := by rw [hcell _ (by omega)]; exact d1
      have f0 := hfz (j * 2)
      obtain ⟨mv, hmv⟩ : ∃ mv, ms[j] = mv := ⟨_, rfl⟩
      rw [hmv] at c1 hmj
      have hog : g < hi := hb1 g rfl
      have b0 : (0 : Int) ≤ (j : Int) := by omega
      have b1 : (j : Int) < (ns.length : Int) := by omega
      have HR := Lib.hid hr
      have HM := Lib.hid hmm
      have HXj := Lib.hid hxj
      have HMj := Lib.hid hmj
      have HX := Lib.hid hx
      have HB2 := Lib.hid hb2
      have HB1 := Lib.hid hb1
      clear hr hmm hcell hfz d0 d1 hxj hmj hx hkk hb2 hb1 hmv hbr
      go_wp2_with fail
      refine (markText_is kk _ (by omega) (by omega)).mono ?_
      rintro e w1 ⟨he, h1⟩
      unfold str at he
      subst he
      have hX : Below wr.heap.size wr w1 := nextX (by go_grown) h1
      replace c0 := cellB hX c0
      replace c1 := cellB hX c1
      replace f0 : w1.frozen? ⟨g, j * 2, none⟩ = false := World.ownsRow.frozenAt (ownsRow_keep HR.out hX) _
      have hr1 := ownsRow_keep HR.out hX
      have hm1 := HM.out.keep hX
      have hs := World.ownsRow.stored hr1 (j * 2) (str (mkT kk))
      rw [rowN_name (mkT kk) (by rw [hll]; have := HM.out.1; omega) HXj.out] at hs
      have hbg : But g wr (w1.setCell ⟨g, j * 2, none⟩ (str (mkT kk))) := (But.of_below hX (Nat.le_refl _)).trans (But.of_grown hs.2 (.inr rfl))
      have hap : ∀ m ∈ ms, m.ownBlock ≠ some g := fun m hmm hh => OwN.apart HR.out HM.out m hmm g rfl hh
      have hm2 := HM.out.but hbg hap
      have HR2 := Lib.hid hs.1
      have HM2 := Lib.hid hm2
      have HBg := Lib.hid (HB.out.trans (ButR.of_but (lo := lo) (hi := hi) hbg (.inl ⟨hg1, hog⟩)))
      have c1' : (w1.setCell ⟨g, j * 2, none⟩ (str (mkT kk))).cell? ⟨g, j * 2 + 1, none⟩ = some mv := by
        have := World.ownsRow.cellAt hs.1 (j * 2 + 1) (by omega)
        rw [this]
        exact (rowN_get (n := (mkT kk, n.2)) (by rw [List.getElem?_set, if_pos rfl, if_pos (by rw [hll]; omega)]) HMj.out).2
      have v1 : IntKind.i64.wrap ((kk : Int) + 1) = ((kk + 1 : Nat) : Int) := by rw [IntWalk.i64_in _ (by omega)]; omega
      have hwz : w1.heap.size ≤ (w1.setCell ⟨g, j * 2, none⟩ (str (mkT kk))).heap.size := hs.2.size
      unfold str at HR2 HM2 HBg c1' hwz
      have hxz := hX.size
      have hlo2 : lo ≤ w1.heap.size := Nat.le_trans hlo (Nat.le_trans hzr hxz)
      clear h1 hs hr1 hm1 hm2 hbg hap
      obtain ⟨Am, cm, hmv, -, -⟩ := ownsRow_slice (HM2.out.2.1 j n mv HXj.out HMj.out)
      subst hmv
      go_wp2_with fail
      refine (markPointS_is lo n.2.length 74 _ _ ((kk + 1 : Nat) : Int) _ (ownsRow_keep (HM2.out.2.1 j n _ HXj.out HMj.out) (by go_grown)) (by first | (go_size; done) | (go_size; exact hlo2) | exact Nat.le_trans hlo2 (by go_size)) hpl (by omega)).mono ?_
      rintro e w2 ⟨he, gm, hgm, hbut, hgo, hrow⟩
      rw [show ((kk + 1 : Nat) : Int) + ((n.2.length * 4 : Nat) : Int) = ((kk + 1 + n.2.length * 4 : Nat) : Int) by omega] at he
      subst he
      obtain ⟨L, hL⟩ : ∃ L, mkN k (ns.take j) ++ ns.drop j = L := ⟨_, rfl⟩
      obtain ⟨W, hWd⟩ : ∃ W, w1.setCell ⟨g, j * 2, none⟩ (.string ⟨(mkT kk).toArray⟩) = W := ⟨_, rfl⟩
      have hset := mark_set (k := k) HX.out
      rw [← HKK.out, hL] at hset
      have HR3 := HR2.out
      have HM3 := HM2.out
      have HX3 := HXj.out
      have HB3 := HBg.out
      rw [hL, hWd] at HR3 HM3
      rw [hL] at HX3 hll
      rw [hWd] at HB3 hwz hbut hgo
      have hgne : (Value.slice (some ⟨g, 0, none⟩) ns.length cap).ownBlock ≠ some gm := by
        intro hh
        simp only [Value.ownBlock, Option.some.injEq] at hh
        subst hh
        rcases hgo with hgo | hgo
        · exact OwN.apart HR3 HM3 _ (List.mem_of_getElem? HMj.out) g rfl hgo
        · omega
      have hrow2 := ownsRow_keepU HR3 hbut hgne
      have hqs : OwP lo 74 w2 (.slice Am n.2.length cm) (mkP ((kk + 1 : Nat) : Int) n.2.length) := by
        unfold OwP
        rw [mkP_len, rowP_mkP]
        exact hrow
      have hm3 := HM3.mark (l := n.1) (ps := n.2) (l' := mkT kk) HX3 HMj.out hbut hgo hqs
      have hrow3 : w2.ownsRow lo 89 2 (.slice (some ⟨g, 0, none⟩) ns.length cap) ns.length (rowN (L.set j (mkT kk, mkP ((kk + 1 : Nat) : Int) n.2.length)) ms) := by
        have e := rowN_map (ms := ms) (ns := L.set j (mkT kk, n.2)) (j := j) (l := mkT kk) (ps := n.2) (qs := mkP ((kk + 1 : Nat) : Int) n.2.length) (by rw [List.getElem?_set, if_pos rfl, if_pos (by rw [hll]; omega)])
        rw [List.set_set] at e
        rw [e]
        exact hrow2
      rw [hset] at hm3 hrow3
      have hgmhi : (lo ≤ gm ∧ gm < hi) ∨ W.heap.size ≤ gm := hgo.imp (fun h => ⟨hgm, HB2.out _ (List.mem_of_getElem? HMj.out) gm h⟩) id
      have HF := Lib.hid (show OwNB lo hi w2 (.slice (some ⟨g, 0, none⟩) ns.length cap) (mkN k (ns.take (j + 1)) ++ ns.drop (j + 1)) ∧ ButR lo hi w w2 from
        ⟨⟨ms, by rw [← hset, List.length_set, hll, hset]; exact hrow3, hm3, HB1.out, HB2.out⟩, HB3.trans (ButR.of_but hbut hgmhi)⟩)
      clear hset HR3 HM3 HX3 HB3 hgne hrow2 hqs hm3 hrow3 hgmhi hbut hgo hrow hgm HR2 HM2 HBg c0 c1 f0 c1' hwz
      go_wp2_with fail
      go_roundw
      case rel => exact ⟨j + 1, kk + 1 + n.2.length * 4, by omega, by go_num, rfl, HKs.out, HF.out.1, HF.out.2⟩
      case measure => simp [intOf] <;> omega
    · obtain rfl : j = ns.length := by omega
      have HF := Lib.hid (show OwNB lo hi wr (.slice A ns.length cap) (mkN k ns) by
        have h := hown
        rw [List.take_length, List.drop_length, List.append_nil] at h
        exact h)
      have HK2 := Lib.hid (show kk = mkK k ns by rw [hkk, List.take_length])
      clear hown hkk hbr HKK
      go_wp2_with fail
      go_ret
      exact ⟨by rw [← HK2.out]; rfl, HF.out, HB.out⟩

def RelHn (ns : List Nm) (k : Nat) (w : World) (q i : Value) (wr : World) : Prop := ∃ j kk : Nat, j ≤ ns.length ∧ i = .int .i64 j ∧ q = .int .i64 kk ∧ kk = mkK k (ns.take j) ∧ Below w.heap.size w wr
set_option maxRecDepth 100000 in
set_option maxHeartbeats 3200000 in
theorem heldNamedS_is (lo k : Nat) (ns : List Nm) (v : Value) (w : World) (hown : OwN lo w v (mkN k ns)) (hk : 0 < k ∧ mkK k ns ≤ 100000000) (hn : ns.length ≤ 1048576) (hm : ∀ n ∈ ns, n.2.length ≤ 1048576) :
    Calls Tryd.prog 37 #[v, .int .i64 k] w fun e w' => e = .returned (.int .i64 (mkK k ns)) ∧ Below w.heap.size w w' := by
  obtain ⟨ms, hr, hmm⟩ := hown
  rw [mkN_len] at hr
  obtain ⟨A, cap, hv, hcap1, hcap2⟩ := ownsRow_slice hr
  subst hv
  unfold maxLen at hcap2
  have HR := Lib.hid hr
  have HM := Lib.hid hmm
  clear hr hmm
  go_enter Tryd.func37, Tryd.ntmps37
  go_wp2_with fail
  go_loopw [1, 5] (fun q i wr => RelHn ns k w q i wr) (fun _ i _ => ns.length - (intOf i).toNat)
  case atStart => exact ⟨0, k, Nat.zero_le _, rfl, rfl, by simp [mkK], Below.refl _ _⟩
  case round =>
    obtain ⟨j, kk, hj, rfl, rfl, hkk, hb⟩ := hrel
    have hzr := hb.size
    have HKK := Lib.hid hkk
    by_cases hlt : j < ns.length
    · have hx := List.getElem?_eq_getElem hlt
      generalize ns[j] = n at *
      have hpl := hm n (List.mem_of_getElem? hx)
      have hks := mkK_snoc (k := k) hx
      have hkt := mkK_take ns k (j + 1)
      have hk0 : k ≤ kk := by rw [hkk]; unfold mkK; omega
      have hkb : kk + 1 + n.2.length * 4 ≤ 100000000 := by omega
      have HKs := Lib.hid (show kk + 1 + n.2.length * 4 = mkK k (ns.take (j + 1)) by omega)
      have hxj := mkN_at (k := k) hx
      rw [← hkk] at hxj
      have hr := ownsRow_keep HR.out hb
      obtain ⟨g, cap', hv, -, -, hg1, hg2, hcell, hfz⟩ := ownsRow_lit hr (by omega)
      simp only [Value.slice.injEq, true_and] at hv
      obtain ⟨rfl, rfl⟩ := hv
      have hml := HM.out.1
      rw [mkN_len] at hml
      have hmj : ms[j]? = some ms[j] := List.getElem?_eq_getElem (by omega)
      obtain ⟨d0, d1⟩ := rowN_get hxj hmj
      have c0 : wr.cell? ⟨g, j * 2, none⟩ = some (str (mkT kk)) := by rw [hcell _ (by omega)]; exact d0
      have c1 : wr.cell? ⟨g, j * 2 + 1, none⟩ = some ms[j] := by rw [hcell _ (by omega)]; exact d1
      have ho := HM.out.2.1 j _ _ hxj hmj
      obtain ⟨mv, hmv⟩ : ∃ mv, ms[j] = mv := ⟨_, rfl⟩
      rw [hmv] at c1 ho
      obtain ⟨Am, cm, hmv2, -, -⟩ := ownsRow_slice ho
      subst hmv2
      unfold OwP at ho
      rw [mkP_len, rowP_mkP] at ho
      rw [mkP_len] at c1
      have HO := Lib.hid (ownsRow_keep ho hb)
      have b0 : (0 : Int) ≤ (j : Int) := by omega
      have b1 : (j : Int) < (ns.length : Int) := by omega
      have hq : ∀ W, (binOp .neq 9 (str (mkT kk)) (str (mkT kk))).run Tryd.prog W = .ok (.bool false) W := fun W => by unfold str; go_simp
      have hgd : ∀ (W : World) (x y : Operand), (eqGuard .neq 9 x y (str (mkT kk)) (str (mkT kk))).run Tryd.prog W = .ok () W := fun W x y => by unfold str; go_simp
      clear hks hkt hxj hr hcell hfz hmj d0 d1 ho hmv hx hkk
      go_wp2_with fail
      refine wp_region_below (by kernel_rfl) (by kernel_rfl) ?_
      iterate 8 (first
        | (refine stepV (v := ?_) rfl (fun W hW => ?_) ?_
           rotate_left
           focus
             have qc0 := cellB hW.out c0
             go_simp
             try with_reducible rfl
             done
           simp only [Act.put, List.setIfInBounds_toArray, List.set_cons_zero, List.set_cons_succ])
        | (refine stepC rfl (fun W hW => ?_) (fun W hW => callB hW (markText_is kk W (by omega) (by omega))) ?_
           focus
             go_simp
             try with_reducible rfl
             done
           simp only [Act.put, List.setIfInBounds_toArray, List.set_cons_zero, List.set_cons_succ]))
      refine stepN ?_
      intro w2 hw2
      have hX : Below wr.heap.size wr w2 := hw2.out
      replace c1 := cellB hX c1
      replace hb := nextW hb hX
      have v1 : IntKind.i64.wrap ((kk : Int) + 1) = ((kk + 1 : Nat) : Int) := by rw [IntWalk.i64_in _ (by omega)]; omega
      replace HO := Lib.hid (ownsRow_keep HO.out hX)
      clear hw2 hX c0
      go_wp2_with fail
      refine (heldPointS_is lo n.2.length 74 _ ((kk + 1 : Nat) : Int) _ (ownsRow_keep HO.out (by go_grown)) hpl (by omega)).mono ?_
      rintro e w3 ⟨he, h3⟩
      rw [show ((kk + 1 : Nat) : Int) + ((n.2.length * 4 : Nat) : Int) = ((kk + 1 + n.2.length * 4 : Nat) : Int) by omega] at he
      subst he
      replace hb := nextW hb (nextX (by go_grown) h3)
      have b2 : ¬ ((kk + 1 + n.2.length * 4 : Nat) : Int) < 0 := by omega
      clear h3 c1
      go_wp2_with fail
      go_roundw
      case rel => exact ⟨j + 1, kk + 1 + n.2.length * 4, by omega, by go_num, rfl, HKs.out, hb⟩
      case measure => simp [intOf] <;> omega
    · obtain rfl : j = ns.length := by omega
      have HK2 := Lib.hid (show kk = mkK k ns by rw [hkk, List.take_length])
      clear hkk HKK
      go_wp2_with fail
      go_ret
      exact ⟨by rw [← HK2.out]; rfl, hb⟩

end Go.Proofs.YtmabngjmfjjogaaDoor
