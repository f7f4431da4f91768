/- The reference puts a fraction in its place, once. -/
import Derived.Test.YtkeajfgcjmhmiaaRis
import Derived.Test.YtkeajfgcjmhmiaaAppQ
import Derived.Test.YtkeajfgcjmhmiaaPer
import Derived.BigQuiet
namespace Go.Proofs.Ytkeajfgcjmhmiaa
open Go.RowKit

theorem OwQ.none (w : World) (base : Nat) (e : TypeId) (hb : base ≤ w.heap.size) : OwQ base e (w.alloc (.cells #[] e)) (.slice (some ⟨w.heap.size, 0, .none⟩) 0 0) [] :=
  ⟨rfl, .inr ⟨w.heap.size, 0, _, rfl, hb, heap_alloc_new w _, Nat.le_refl _, by simp [maxLen], rfl, by simp [rowQ]⟩⟩
theorem RdQ.drop {w : World} {g o n c : Nat} {l : List Q} (h : RdQ w (.slice (some ⟨g, o, none⟩) n c) l) (i : Nat) (hi : i ≤ n) : RdQ w (.slice (some ⟨g, o + i * 2, none⟩) (n - i) (c - i)) (l.drop i) := by
  obtain ⟨A', c', he, h1, h2, h3⟩ := h
  simp only [Value.slice.injEq] at he
  obtain ⟨rfl, rfl, rfl⟩ := he
  refine ⟨_, c - i, by rw [List.length_drop], by rw [List.length_drop]; omega, by omega, fun hn => ?_⟩
  obtain ⟨g', o', he, hg, hc⟩ := h3 (by rintro rfl; apply hn; simp)
  simp only [Option.some.injEq, Addr.mk.injEq, and_true] at he
  obtain ⟨rfl, rfl⟩ := he
  refine ⟨g, o + i * 2, rfl, hg, fun j q hq => ?_⟩
  rw [List.getElem?_drop] at hq
  obtain ⟨d0, d1⟩ := hc _ _ hq
  rw [show o + (i + j) * 2 = o + i * 2 + j * 2 from by omega] at d0 d1
  exact ⟨d0, d1⟩
theorem RdQ.one {w : World} {g : Nat} {a b : Int} (c0 : w.cell? ⟨g, 0, none⟩ = some (.int .i64 a)) (c1 : w.cell? ⟨g, 1, none⟩ = some (.int .i64 b)) : RdQ w (.slice (some ⟨g, 0, none⟩) 1 1) [(a, b)] :=
  ⟨_, 1, rfl, Nat.le_refl _, by simp [maxLen], fun _ => ⟨g, 0, rfl, lt_of_cell c0, fun i q hq => by
    rcases i with _ | i
    · simp at hq; subst hq; exact ⟨c0, c1⟩
    · simp at hq⟩⟩
theorem RdQ.grown1 {w w' : World} {row : Option Nat} {g : Nat} {a b : Int} (h : w.grownBy w' row) (hr : row ≠ some g) (c0 : w.cell? ⟨g, 0, none⟩ = some (.int .i64 a)) (c1 : w.cell? ⟨g, 1, none⟩ = some (.int .i64 b)) : RdQ w' (.slice (some ⟨g, 0, none⟩) 1 1) [(a, b)] :=
  RdQ.one (h.cell c0 (fun e => hr e.symm)) (h.cell c1 (fun e => hr e.symm))
theorem RdQ.rest {w : World} {g n c : Nat} {l : List Q} (h : RdQ w (.slice (some ⟨g, 0, none⟩) n c) l) (i : Nat) (hi : i ≤ n) : RdQ w (.slice (if c = i then some ⟨g, 0, none⟩ else some ⟨g, i * 2, none⟩) (n - i) (c - i)) (l.drop i) := by
  have hn : n = l.length ∧ n ≤ c := by
    obtain ⟨A', c', he, h1, h2, h3⟩ := h
    simp only [Value.slice.injEq] at he
    omega
  split
  · obtain rfl : i = l.length := by omega
    rw [List.drop_length]
    exact ⟨_, _, by rw [hn.1, Nat.sub_self]; rfl, by simp, by simp [maxLen]; omega, fun hne => absurd rfl hne⟩
  · have := RdQ.drop h i hi
    rwa [Nat.zero_add] at this
theorem RdQ.nil (w : World) : RdQ w (.slice none 0 0) [] := ⟨_, _, rfl, Nat.le_refl _, by simp [maxLen], fun hne => absurd rfl hne⟩

/-- What imPut leaves. -/
def PutEnd (base : Nat) (qs : List Q) (w : World) (x : Ending) (w' : World) : Prop := ∃ r, x = .returned r ∧ OwQ base 32 w' r qs ∧ Below w.heap.size w w'

set_option maxRecDepth 100000 in
set_option maxHeartbeats 1600000 in
theorem imPut_nil (base : Nat) (x1 x2 : Int) (w : World) (hb : base ≤ w.heap.size) :
    Calls Try.prog 92 #[.slice none 0 0, .agg #[.int .i64 x1, .int .i64 x2]] w (PutEnd base (insQ (x1, x2) []) w) := by
  go_enter Try.func92, Try.ntmps92
  go_wp2_with fail
  go_name_world W hW
  have e0 : W.cell? ⟨w.heap.size, 0, none⟩ = some (.int .i64 x1) := by rw [← hW]; simp [go_sem]
  have e1 : W.cell? ⟨w.heap.size, 1, none⟩ = some (.int .i64 x2) := by rw [← hW]; simp [go_sem]
  have hB : Below w.heap.size w W := by rw [← hW]; go_grown
  clear hW
  go_loopw [5] (fun i wr => i = .int .i64 0 ∧ wr = W) (fun _ _ => 0)
  case atStart => exact ⟨rfl, rfl⟩
  case round =>
    obtain ⟨rfl, rfl⟩ := hrel
    have hd : decide ((0 : Int) < 0) = false := by decide
    go_wp2_with fail
    go_quiet (fail)
    go_wp2_with fail
    go_quiet (fail)
    go_wp2_with fail
    go_name_world W2 hW2
    have kL : Facts [(w.heap.size, 0, .int .i64 x1), (w.heap.size, 1, .int .i64 x2)] W2 := by rw [← hW2]; exact ⟨e0, e1⟩
    have hB2 : Below w.heap.size w W2 := by rw [← hW2]; exact below_drewN (below_drewN hB _) _
    have hzw : w.heap.size ≤ W2.heap.size := hB2.size
    have hz2 : base ≤ W2.heap.size := Nat.le_trans hb hB2.size
    clear hW2
    have N1 := Lib.hid (OwQ.none W2 W2.heap.size 32 (Nat.le_refl _))
    have N12 := Lib.hid (show OwQ W2.heap.size 32 ((W2.alloc (.cells #[] 32)).alloc (.cells #[.int .i64 x1, .int .i64 x2] 32)) (.slice (some ⟨W2.heap.size, 0, none⟩) 0 0) [] from N1.out.keep (by go_grown))
    have N2 := Lib.hid (show OwQ W2.heap.size 32 ((W2.alloc (.cells #[.int .i64 x1, .int .i64 x2] 32)).alloc (.cells #[] 32)) (.slice (some ⟨W2.heap.size + 1, 0, none⟩) 0 0) [] from by have h := OwQ.none (W2.alloc (.cells #[.int .i64 x1, .int .i64 x2] 32)) W2.heap.size 32 (by go_size); rwa [show (W2.alloc (.cells #[.int .i64 x1, .int .i64 x2] 32)).heap.size = W2.heap.size + 1 from by simp [go_sem]] at h)
    have R2 : ∀ {wa}, World.grownBy ((W2.alloc (.cells #[] 32)).alloc (.cells #[.int .i64 x1, .int .i64 x2] 32)) wa (some W2.heap.size) → RdQ wa (.slice (some ⟨W2.heap.size + 1, 0, none⟩) 1 1) [(x1, x2)] := fun {wa} h => RdQ.grown1 h (by simp) (by simp [go_sem]) (by simp [go_sem])
    have R2d : ∀ {wa}, World.grownBy ((W2.alloc (.cells #[] 32)).alloc (.cells #[.int .i64 x1, .int .i64 x2] 32)).drew wa (some W2.heap.size) → RdQ wa (.slice (some ⟨W2.heap.size + 1, 0, none⟩) 1 1) [(x1, x2)] := fun {wa} h => RdQ.grown1 h (by simp) (by simp [go_sem]) (by simp [go_sem])
    have R3 : ∀ {wa}, World.grownBy ((W2.alloc (.cells #[.int .i64 x1, .int .i64 x2] 32)).alloc (.cells #[] 32)) wa (some (W2.heap.size + 1)) → RdQ wa (.slice (some ⟨W2.heap.size, 0, none⟩) 1 1) [(x1, x2)] := fun {wa} h => RdQ.grown1 h (by simp) (by simp [go_sem]) (by simp [go_sem])
    have R3d : ∀ {wa}, World.grownBy ((W2.alloc (.cells #[.int .i64 x1, .int .i64 x2] 32)).alloc (.cells #[] 32)).drew wa (some (W2.heap.size + 1)) → RdQ wa (.slice (some ⟨W2.heap.size, 0, none⟩) 1 1) [(x1, x2)] := fun {wa} h => RdQ.grown1 h (by simp) (by simp [go_sem]) (by simp [go_sem])
    go_region_held3 (fun w' => w'.cell? ⟨w.heap.size, 0, none⟩ = some (.int .i64 x1) ∧ w'.cell? ⟨w.heap.size, 1, none⟩ = some (.int .i64 x2))
      ((refine Facts.keep kL ?_; go_grown; done))
      ((first
        | (refine step_append_rdg _ rfl (.tmp 38) (.tmp 40) rfl W2.heap.size va _ _ [(x1, x2)] rfl (h1a.keep ?_) rfl ?_ ?_ ?_ ?_; (focus (go_grown; done)); (first | exact rx | (refine RdQ.one ?_ ?_ <;> (simp [go_sem]; done))); (focus (simp; done)); (focus (go_size; done)); intro vb wb h1b h2b h3b; have hXb : Below W2.heap.size W2 wb := Below.trans (by go_grown) h2b; have hzb : W2.heap.size ≤ wb.heap.size := hXb.size; have hYb : Below w.heap.size w wb := hB2.trans (hXb.mono hB2.size); have hyb : w.heap.size ≤ wb.heap.size := hYb.size)
        | (refine step_append_rdg _ rfl (.tmp 34) (.tmp 37) rfl W2.heap.size _ _ [] ([]) rfl ?_ rfl (RdQ.nil _) ?_ ?_ ?_; (first | exact N1.out | exact N12.out | exact N2.out); (focus (simp; done)); (focus (go_size; done)); intro va wa h1a h2a h3a; have hXa : Below W2.heap.size W2 wa := Below.trans (by go_grown) h2a; have hza : W2.heap.size ≤ wa.heap.size := hXa.size; have hYa : Below w.heap.size w wa := hB2.trans (hXa.mono hB2.size); have hya : w.heap.size ≤ wa.heap.size := hYa.size; (first | have rx := R2 h3a | have rx := R2d h3a | have rx := R3 h3a | have rx := R3d h3a | skip))
        | (refine step_append_rdg _ rfl (.tmp 41) (.tmp 44) rfl W2.heap.size vb _ _ ([]) rfl (h1b.keep ?_) rfl (RdQ.nil _) ?_ ?_ ?_; (focus (go_grown; done)); (focus (simp; done)); (focus (go_size; done)); intro vc wc h1c h2c h3c; have hXc : Below W2.heap.size W2 wc := Below.trans (by go_grown) h2c; have hzc : W2.heap.size ≤ wc.heap.size := hXc.size)))
    all_goals
      have HC := Lib.hid (OwQ.low h1c hz2)
      have hBc := hB2.trans (hXc.mono hB2.size)
      clear h1a h2a h3a h1b h2b h3b h1c h2c h3c hXa hXb hza hzb kL
      go_wp2_with fail
      all_goals
        go_ret
        exact ⟨_, rfl, by have := HC.out; simpa [insQ] using this, hBc⟩

def RelIn (x : Q) (l : List Q) (W : World) (i : Value) (wr : World) : Prop :=
  ∃ k : Nat, k ≤ l.length ∧ i = .int .i64 k ∧ (∀ (j : Nat) (y : Q), j < k → l[j]? = some y → lessQ y.1 y.2 x.1 x.2 = true) ∧ Below W.heap.size W wr

set_option maxRecDepth 100000 in
set_option maxHeartbeats 3200000 in
theorem imPut_at (base : Nat) (l : List Q) (g cap : Nat) (x1 x2 : Int) (w : World) (h : OwQ base 32 w (.slice (some ⟨g, 0, none⟩) l.length cap) l) (ho : OkL l) (hx : okQ x1 x2 = true) (hn : l.length ≤ 100000) (hb : base ≤ w.heap.size) :
    Calls Try.prog 92 #[.slice (some ⟨g, 0, none⟩) l.length cap, .agg #[.int .i64 x1, .int .i64 x2]] w (PutEnd base (insQ (x1, x2) l) w) := by
  have HO := Lib.hid h
  have HX := Lib.hid hx
  have HL := Lib.hid ho
  have hgw : g < w.heap.size := (World.ownsRow.lt h g rfl).2
  have hcap : l.length ≤ cap := by
    obtain ⟨A', c', he, h1, h2, h3⟩ := h.read
    simp only [Value.slice.injEq] at he
    omega
  have HC := Lib.hid (show ∀ (i : Nat) (q : Q), l[i]? = some q → w.cell? ⟨g, i * 2, none⟩ = some (.int .i64 q.1) ∧ w.cell? ⟨g, i * 2 + 1, none⟩ = some (.int .i64 q.2) from by
    intro i q hq
    obtain ⟨A', c', he, h1, h2, h3⟩ := h.read
    simp only [Value.slice.injEq] at he
    obtain ⟨rfl, -, rfl⟩ := he
    obtain ⟨g', o', he, hg, hc⟩ := h3 (by rintro rfl; simp at hq)
    simp only [Option.some.injEq, Addr.mk.injEq, and_true] at he
    obtain ⟨rfl, rfl⟩ := he
    have := hc i q hq
    rwa [Nat.zero_add] at this)
  clear h ho hx
  go_enter Try.func92, Try.ntmps92
  go_wp2_with fail
  go_name_world W hW
  have e0 : W.cell? ⟨w.heap.size, 0, none⟩ = some (.int .i64 x1) := by rw [← hW]; simp [go_sem]
  have e1 : W.cell? ⟨w.heap.size, 1, none⟩ = some (.int .i64 x2) := by rw [← hW]; simp [go_sem]
  have hB : Below w.heap.size w W := by rw [← hW]; go_grown
  have hgW : g < W.heap.size := Nat.lt_of_lt_of_le hgw hB.size
  clear hW
  go_loopw [5] (fun i wr => RelIn (x1, x2) l W i wr) (fun i _ => l.length - (intOf i).toNat)
  case atStart => exact ⟨0, Nat.zero_le _, rfl, fun j y hj => absurd hj (Nat.not_lt_zero _), Below.refl _ _⟩
  case round =>
    obtain ⟨k, hk, rfl, hbe, hb'⟩ := hrel
    have HBE := Lib.hid hbe
    have hBr := hB.trans (hb'.mono hB.size)
    clear hbe
    by_cases hlt : k < l.length
    · have hq := List.getElem?_eq_getElem hlt
      have HQ := Lib.hid (HL.out _ (List.getElem_mem hlt))
      generalize l[k] = q at *
      obtain ⟨a1, a2⟩ := q
      have HG := Lib.hid hq
      obtain ⟨c0, c1⟩ := HC.out k _ hq
      replace c0 := cellB hBr c0
      replace c1 := cellB hBr c1
      have d0 := cellB hb' e0
      have d1 := cellB hb' e1
      obtain ⟨v, hv⟩ : ∃ v, cmpQ a1 a2 x1 x2 = v := ⟨_, rfl⟩
      have hle : lessQ a1 a2 x1 x2 = decide (v < 0) := by rw [lessQ_cmp, hv]
      clear hq
      have HV := Lib.hid hv
      have b0 : (0 : Int) ≤ (k : Int) := by omega
      have b1 : (k : Int) < (l.length : Int) := by omega
      have b1' : decide ((k : Int) < (l.length : Int)) = true := by simpa using b1
      have v2 : IntKind.i64.wrap ((k : Int) + 1) = (k : Int) + 1 := IntWalk.i64_in _ (by omega)
      have v3 : IntKind.i64.wrap (k : Int) = (k : Int) := IntWalk.i64_in _ (by omega)
      rcases Int.lt_or_le v 0 with h0 | h0
      · have hd : decide (v < (0 : Int)) = true := by simpa using h0
        have HB2 := Lib.hid (show ∀ (j : Nat) (y : Q), j < k + 1 → l[j]? = some y → lessQ y.1 y.2 x1 x2 = true from fun j y hj hy => by
          by_cases e : j = k
          · subst e; rw [HG.out] at hy; cases hy; rw [hle]; exact hd
          · exact HBE.out j y (by omega) hy)
        clear hle hv
        go_wp2_with fail
        refine wp_region_below (by kernel_rfl) (by kernel_rfl) ?_
        iterate 13 (first
          | (refine stepS rfl ?_; simp only [Act.put, List.setIfInBounds_toArray, List.set_cons_zero, List.set_cons_succ])
          | (refine stepV (v := ?_) rfl (fun W hW => ?_) ?_
             rotate_left
             focus
               have qc0 := cellB hW.out c0
               have qc1 := cellB hW.out c1
               have qc2 := cellB hW.out d0
               have qc3 := cellB hW.out d1
               go_simp
               try with_reducible rfl
               done
             simp only [Act.put, List.setIfInBounds_toArray, List.set_cons_zero, List.set_cons_succ])
          | (refine stepC rfl (fun W hW => ?_) (fun W hW => callB hW (raCmp_is a1 a2 x1 x2 v (Sm.of_ok HQ.out) (Sm.of_ok HX.out) HV.out _)) ?_
             focus
               go_simp
               try with_reducible rfl
               done
             simp only [Act.put, List.setIfInBounds_toArray, List.set_cons_zero, List.set_cons_succ]))
        refine stepN ?_
        intro w1 hw1
        have hB2 := nextW hb' hw1.out
        have hX2 := hw1.out
        clear hw1 hX2 c0 c1 d0 d1 hb' hd b1'
        go_wp2_with fail
        go_roundw
        case rel => exact ⟨k + 1, by omega, by go_num, HB2.out, hB2⟩
        case measure => simp [intOf]; omega
      · have hd : decide (v < (0 : Int)) = false := by simpa using h0
        have HN := Lib.hid (show lessQ a1 a2 x1 x2 = false from by rw [hle]; exact hd)
        clear hle hv
        go_wp2_with fail
        refine wp_region_below (by kernel_rfl) (by kernel_rfl) ?_
        iterate 13 (first
          | (refine stepS rfl ?_; simp only [Act.put, List.setIfInBounds_toArray, List.set_cons_zero, List.set_cons_succ])
          | (refine stepV (v := ?_) rfl (fun W hW => ?_) ?_
             rotate_left
             focus
               have qc0 := cellB hW.out c0
               have qc1 := cellB hW.out c1
               have qc2 := cellB hW.out d0
               have qc3 := cellB hW.out d1
               go_simp
               try with_reducible rfl
               done
             simp only [Act.put, List.setIfInBounds_toArray, List.set_cons_zero, List.set_cons_succ])
          | (refine stepC rfl (fun W hW => ?_) (fun W hW => callB hW (raCmp_is a1 a2 x1 x2 v (Sm.of_ok HQ.out) (Sm.of_ok HX.out) HV.out _)) ?_
             focus
               go_simp
               try with_reducible rfl
               done
             simp only [Act.put, List.setIfInBounds_toArray, List.set_cons_zero, List.set_cons_succ]))
        refine stepN ?_
        intro w1 hw1
        have hB2 := nextW hb' hw1.out
        have hX2 := hw1.out
        replace c0 := cellB hX2 c0
        replace c1 := cellB hX2 c1
        replace d0 := cellB hX2 d0
        replace d1 := cellB hX2 d1
        have hBw := hB.trans (hB2.mono hB.size)
        clear hw1 hX2 hb' hd
        by_cases he : ((a1, a2) : Q) = (x1, x2)
        · simp only [Prod.mk.injEq] at he
          obtain ⟨rfl, rfl⟩ := he
          have HI := Lib.hid (insQ_have HBE.out HG.out HN.out rfl)
          go_wp2_with fail
          go_quiet (fail)
          go_wp2_with fail
          go_ret
          exact ⟨_, rfl, by rw [HI.out]; exact HO.out.keep (below_drewN hBw _), below_drewN hBw _⟩
        · have HI := Lib.hid (insQ_put HBE.out HG.out HN.out he)
          have hor := q_or he
          have HT := Lib.hid (RdQ.take HO.out.read k hk)
          have HD := Lib.hid (RdQ.rest HO.out.read k hk)
          have b4 : (k : Int) ≤ (cap : Int) := by omega
          have b5 : (k : Int) ≤ (l.length : Int) := by omega
          rcases hor with q1 | ⟨q1, q2⟩
          · go_wp2_with fail
            go_quiet (fail)
            go_wp2_with fail
            go_name_world W2 hW2
            have kL : Facts [(w.heap.size, 0, .int .i64 x1), (w.heap.size, 1, .int .i64 x2)] W2 := by rw [← hW2]; exact ⟨d0, d1⟩
            have hB2 : Below w.heap.size w W2 := by rw [← hW2]; exact below_drewN hBw _
            have hzw : w.heap.size ≤ W2.heap.size := hB2.size
            have hz2 : base ≤ W2.heap.size := Nat.le_trans hb hB2.size
            clear hW2
            have N1 := Lib.hid (OwQ.none W2 W2.heap.size 32 (Nat.le_refl _))
            have N12 := Lib.hid (show OwQ W2.heap.size 32 ((W2.alloc (.cells #[] 32)).alloc (.cells #[.int .i64 x1, .int .i64 x2] 32)) (.slice (some ⟨W2.heap.size, 0, none⟩) 0 0) [] from N1.out.keep (by go_grown))
            have N2 := Lib.hid (show OwQ W2.heap.size 32 ((W2.alloc (.cells #[.int .i64 x1, .int .i64 x2] 32)).alloc (.cells #[] 32)) (.slice (some ⟨W2.heap.size + 1, 0, none⟩) 0 0) [] from by have h := OwQ.none (W2.alloc (.cells #[.int .i64 x1, .int .i64 x2] 32)) W2.heap.size 32 (by go_size); rwa [show (W2.alloc (.cells #[.int .i64 x1, .int .i64 x2] 32)).heap.size = W2.heap.size + 1 from by simp [go_sem]] at h)
            have R2 : ∀ {wa}, World.grownBy ((W2.alloc (.cells #[] 32)).alloc (.cells #[.int .i64 x1, .int .i64 x2] 32)) wa (some W2.heap.size) → RdQ wa (.slice (some ⟨W2.heap.size + 1, 0, none⟩) 1 1) [(x1, x2)] := fun {wa} h => RdQ.grown1 h (by simp) (by simp [go_sem]) (by simp [go_sem])
            have R2d : ∀ {wa}, World.grownBy ((W2.alloc (.cells #[] 32)).alloc (.cells #[.int .i64 x1, .int .i64 x2] 32)).drew wa (some W2.heap.size) → RdQ wa (.slice (some ⟨W2.heap.size + 1, 0, none⟩) 1 1) [(x1, x2)] := fun {wa} h => RdQ.grown1 h (by simp) (by simp [go_sem]) (by simp [go_sem])
            have R3 : ∀ {wa}, World.grownBy ((W2.alloc (.cells #[.int .i64 x1, .int .i64 x2] 32)).alloc (.cells #[] 32)) wa (some (W2.heap.size + 1)) → RdQ wa (.slice (some ⟨W2.heap.size, 0, none⟩) 1 1) [(x1, x2)] := fun {wa} h => RdQ.grown1 h (by simp) (by simp [go_sem]) (by simp [go_sem])
            have R3d : ∀ {wa}, World.grownBy ((W2.alloc (.cells #[.int .i64 x1, .int .i64 x2] 32)).alloc (.cells #[] 32)).drew wa (some (W2.heap.size + 1)) → RdQ wa (.slice (some ⟨W2.heap.size, 0, none⟩) 1 1) [(x1, x2)] := fun {wa} h => RdQ.grown1 h (by simp) (by simp [go_sem]) (by simp [go_sem])
            go_region_held3 (fun w' => w'.cell? ⟨w.heap.size, 0, none⟩ = some (.int .i64 x1) ∧ w'.cell? ⟨w.heap.size, 1, none⟩ = some (.int .i64 x2))
              ((refine Facts.keep kL ?_; go_grown; done))
              ((first
                | (refine step_append_rdg _ rfl (.tmp 38) (.tmp 40) rfl W2.heap.size va _ _ [(x1, x2)] rfl (h1a.keep ?_) rfl ?_ ?_ ?_ ?_; (focus (go_grown; done)); (first | exact rx | (refine RdQ.one ?_ ?_ <;> (simp [go_sem]; done))); (focus (simp; omega)); (focus (go_size; done)); intro vb wb h1b h2b h3b; have hXb : Below W2.heap.size W2 wb := Below.trans (by go_grown) h2b; have hzb : W2.heap.size ≤ wb.heap.size := hXb.size; have hYb : Below w.heap.size w wb := hB2.trans (hXb.mono hB2.size); have hyb : w.heap.size ≤ wb.heap.size := hYb.size)
                | (refine step_append_rdg _ rfl (.tmp 34) (.tmp 37) rfl W2.heap.size _ _ [] (l.take k) rfl ?_ rfl (HT.out.keep ?_) ?_ ?_ ?_; (first | exact N1.out | exact N12.out | exact N2.out); (focus (go_grown; done)); (focus (simp; omega)); (focus (go_size; done)); intro va wa h1a h2a h3a; have hXa : Below W2.heap.size W2 wa := Below.trans (by go_grown) h2a; have hza : W2.heap.size ≤ wa.heap.size := hXa.size; have hYa : Below w.heap.size w wa := hB2.trans (hXa.mono hB2.size); have hya : w.heap.size ≤ wa.heap.size := hYa.size; (first | have rx := R2 h3a | have rx := R2d h3a | have rx := R3 h3a | have rx := R3d h3a | skip))
                | (refine step_append_rdg _ rfl (.tmp 41) (.tmp 44) rfl W2.heap.size vb _ _ (l.drop k) rfl (h1b.keep ?_) rfl (HD.out.keep ?_) ?_ ?_ ?_; (focus (go_grown; done)); (focus (go_grown; done)); (focus (simp; omega)); (focus (go_size; done)); intro vc wc h1c h2c h3c; have hXc : Below W2.heap.size W2 wc := Below.trans (by go_grown) h2c; have hzc : W2.heap.size ≤ wc.heap.size := hXc.size)))
            all_goals
              have HC := Lib.hid (OwQ.low h1c hz2)
              have hBc := hB2.trans (hXc.mono hB2.size)
              clear h1a h2a h3a h1b h2b h3b h1c h2c h3c hXa hXb hza hzb kL
              go_wp2_with fail
              all_goals
                go_ret
                exact ⟨_, rfl, by have := HC.out; rw [HI.out]; simpa using this, hBc⟩
          · go_wp2_with fail
            go_quiet (fail)
            go_wp2_with fail
            go_name_world W2 hW2
            have kL : Facts [(w.heap.size, 0, .int .i64 x1), (w.heap.size, 1, .int .i64 x2)] W2 := by rw [← hW2]; exact ⟨d0, d1⟩
            have hB2 : Below w.heap.size w W2 := by rw [← hW2]; exact below_drewN hBw _
            have hzw : w.heap.size ≤ W2.heap.size := hB2.size
            have hz2 : base ≤ W2.heap.size := Nat.le_trans hb hB2.size
            clear hW2
            have N1 := Lib.hid (OwQ.none W2 W2.heap.size 32 (Nat.le_refl _))
            have N12 := Lib.hid (show OwQ W2.heap.size 32 ((W2.alloc (.cells #[] 32)).alloc (.cells #[.int .i64 x1, .int .i64 x2] 32)) (.slice (some ⟨W2.heap.size, 0, none⟩) 0 0) [] from N1.out.keep (by go_grown))
            have N2 := Lib.hid (show OwQ W2.heap.size 32 ((W2.alloc (.cells #[.int .i64 x1, .int .i64 x2] 32)).alloc (.cells #[] 32)) (.slice (some ⟨W2.heap.size + 1, 0, none⟩) 0 0) [] from by have h := OwQ.none (W2.alloc (.cells #[.int .i64 x1, .int .i64 x2] 32)) W2.heap.size 32 (by go_size); rwa [show (W2.alloc (.cells #[.int .i64 x1, .int .i64 x2] 32)).heap.size = W2.heap.size + 1 from by simp [go_sem]] at h)
            have R2 : ∀ {wa}, World.grownBy ((W2.alloc (.cells #[] 32)).alloc (.cells #[.int .i64 x1, .int .i64 x2] 32)) wa (some W2.heap.size) → RdQ wa (.slice (some ⟨W2.heap.size + 1, 0, none⟩) 1 1) [(x1, x2)] := fun {wa} h => RdQ.grown1 h (by simp) (by simp [go_sem]) (by simp [go_sem])
            have R2d : ∀ {wa}, World.grownBy ((W2.alloc (.cells #[] 32)).alloc (.cells #[.int .i64 x1, .int .i64 x2] 32)).drew wa (some W2.heap.size) → RdQ wa (.slice (some ⟨W2.heap.size + 1, 0, none⟩) 1 1) [(x1, x2)] := fun {wa} h => RdQ.grown1 h (by simp) (by simp [go_sem]) (by simp [go_sem])
            have R3 : ∀ {wa}, World.grownBy ((W2.alloc (.cells #[.int .i64 x1, .int .i64 x2] 32)).alloc (.cells #[] 32)) wa (some (W2.heap.size + 1)) → RdQ wa (.slice (some ⟨W2.heap.size, 0, none⟩) 1 1) [(x1, x2)] := fun {wa} h => RdQ.grown1 h (by simp) (by simp [go_sem]) (by simp [go_sem])
            have R3d : ∀ {wa}, World.grownBy ((W2.alloc (.cells #[.int .i64 x1, .int .i64 x2] 32)).alloc (.cells #[] 32)).drew wa (some (W2.heap.size + 1)) → RdQ wa (.slice (some ⟨W2.heap.size, 0, none⟩) 1 1) [(x1, x2)] := fun {wa} h => RdQ.grown1 h (by simp) (by simp [go_sem]) (by simp [go_sem])
            go_region_held3 (fun w' => w'.cell? ⟨w.heap.size, 0, none⟩ = some (.int .i64 x1) ∧ w'.cell? ⟨w.heap.size, 1, none⟩ = some (.int .i64 x2))
              ((refine Facts.keep kL ?_; go_grown; done))
              ((first
                | (refine step_append_rdg _ rfl (.tmp 38) (.tmp 40) rfl W2.heap.size va _ _ [(x1, x2)] rfl (h1a.keep ?_) rfl ?_ ?_ ?_ ?_; (focus (go_grown; done)); (first | exact rx | (refine RdQ.one ?_ ?_ <;> (simp [go_sem]; done))); (focus (simp; omega)); (focus (go_size; done)); intro vb wb h1b h2b h3b; have hXb : Below W2.heap.size W2 wb := Below.trans (by go_grown) h2b; have hzb : W2.heap.size ≤ wb.heap.size := hXb.size; have hYb : Below w.heap.size w wb := hB2.trans (hXb.mono hB2.size); have hyb : w.heap.size ≤ wb.heap.size := hYb.size)
                | (refine step_append_rdg _ rfl (.tmp 34) (.tmp 37) rfl W2.heap.size _ _ [] (l.take k) rfl ?_ rfl (HT.out.keep ?_) ?_ ?_ ?_; (first | exact N1.out | exact N12.out | exact N2.out); (focus (go_grown; done)); (focus (simp; omega)); (focus (go_size; done)); intro va wa h1a h2a h3a; have hXa : Below W2.heap.size W2 wa := Below.trans (by go_grown) h2a; have hza : W2.heap.size ≤ wa.heap.size := hXa.size; have hYa : Below w.heap.size w wa := hB2.trans (hXa.mono hB2.size); have hya : w.heap.size ≤ wa.heap.size := hYa.size; (first | have rx := R2 h3a | have rx := R2d h3a | have rx := R3 h3a | have rx := R3d h3a | skip))
                | (refine step_append_rdg _ rfl (.tmp 41) (.tmp 44) rfl W2.heap.size vb _ _ (l.drop k) rfl (h1b.keep ?_) rfl (HD.out.keep ?_) ?_ ?_ ?_; (focus (go_grown; done)); (focus (go_grown; done)); (focus (simp; omega)); (focus (go_size; done)); intro vc wc h1c h2c h3c; have hXc : Below W2.heap.size W2 wc := Below.trans (by go_grown) h2c; have hzc : W2.heap.size ≤ wc.heap.size := hXc.size)))
            all_goals
              have HC := Lib.hid (OwQ.low h1c hz2)
              have hBc := hB2.trans (hXc.mono hB2.size)
              clear h1a h2a h3a h1b h2b h3b h1c h2c h3c hXa hXb hza hzb kL
              go_wp2_with fail
              all_goals
                go_ret
                exact ⟨_, rfl, by have := HC.out; rw [HI.out]; simpa using this, hBc⟩
    · obtain rfl : k = l.length := by omega
      have HI := Lib.hid (insQ_end HBE.out)
      have b1' : decide ((l.length : Int) < (l.length : Int)) = false := by simp
      have HT := Lib.hid (HO.out.read)
      have HD := Lib.hid (RdQ.rest HO.out.read l.length (Nat.le_refl _))
      rw [List.drop_length, Nat.sub_self] at HD
      have f0 := cellB hb' e0
      have f1 := cellB hb' e1
      have b4 : (l.length : Int) ≤ (cap : Int) := by omega
      go_wp2_with fail
      go_quiet (fail)
      go_wp2_with fail
      go_quiet (fail)
      go_wp2_with fail
      go_name_world W2 hW2
      have kL : Facts [(w.heap.size, 0, .int .i64 x1), (w.heap.size, 1, .int .i64 x2)] W2 := by rw [← hW2]; exact ⟨f0, f1⟩
      have hB2 : Below w.heap.size w W2 := by rw [← hW2]; exact below_drewN (below_drewN hBr _) _
      have hzw : w.heap.size ≤ W2.heap.size := hB2.size
      have hz2 : base ≤ W2.heap.size := Nat.le_trans hb hB2.size
      clear hW2
      have N1 := Lib.hid (OwQ.none W2 W2.heap.size 32 (Nat.le_refl _))
      have N12 := Lib.hid (show OwQ W2.heap.size 32 ((W2.alloc (.cells #[] 32)).alloc (.cells #[.int .i64 x1, .int .i64 x2] 32)) (.slice (some ⟨W2.heap.size, 0, none⟩) 0 0) [] from N1.out.keep (by go_grown))
      have N2 := Lib.hid (show OwQ W2.heap.size 32 ((W2.alloc (.cells #[.int .i64 x1, .int .i64 x2] 32)).alloc (.cells #[] 32)) (.slice (some ⟨W2.heap.size + 1, 0, none⟩) 0 0) [] from by have h := OwQ.none (W2.alloc (.cells #[.int .i64 x1, .int .i64 x2] 32)) W2.heap.size 32 (by go_size); rwa [show (W2.alloc (.cells #[.int .i64 x1, .int .i64 x2] 32)).heap.size = W2.heap.size + 1 from by simp [go_sem]] at h)
      have R2 : ∀ {wa}, World.grownBy ((W2.alloc (.cells #[] 32)).alloc (.cells #[.int .i64 x1, .int .i64 x2] 32)) wa (some W2.heap.size) → RdQ wa (.slice (some ⟨W2.heap.size + 1, 0, none⟩) 1 1) [(x1, x2)] := fun {wa} h => RdQ.grown1 h (by simp) (by simp [go_sem]) (by simp [go_sem])
      have R2d : ∀ {wa}, World.grownBy ((W2.alloc (.cells #[] 32)).alloc (.cells #[.int .i64 x1, .int .i64 x2] 32)).drew wa (some W2.heap.size) → RdQ wa (.slice (some ⟨W2.heap.size + 1, 0, none⟩) 1 1) [(x1, x2)] := fun {wa} h => RdQ.grown1 h (by simp) (by simp [go_sem]) (by simp [go_sem])
      have R3 : ∀ {wa}, World.grownBy ((W2.alloc (.cells #[.int .i64 x1, .int .i64 x2] 32)).alloc (.cells #[] 32)) wa (some (W2.heap.size + 1)) → RdQ wa (.slice (some ⟨W2.heap.size, 0, none⟩) 1 1) [(x1, x2)] := fun {wa} h => RdQ.grown1 h (by simp) (by simp [go_sem]) (by simp [go_sem])
      have R3d : ∀ {wa}, World.grownBy ((W2.alloc (.cells #[.int .i64 x1, .int .i64 x2] 32)).alloc (.cells #[] 32)).drew wa (some (W2.heap.size + 1)) → RdQ wa (.slice (some ⟨W2.heap.size, 0, none⟩) 1 1) [(x1, x2)] := fun {wa} h => RdQ.grown1 h (by simp) (by simp [go_sem]) (by simp [go_sem])
      go_region_held3 (fun w' => w'.cell? ⟨w.heap.size, 0, none⟩ = some (.int .i64 x1) ∧ w'.cell? ⟨w.heap.size, 1, none⟩ = some (.int .i64 x2))
        ((refine Facts.keep kL ?_; go_grown; done))
        ((first
          | (refine step_append_rdg _ rfl (.tmp 38) (.tmp 40) rfl W2.heap.size va _ _ [(x1, x2)] rfl (h1a.keep ?_) rfl ?_ ?_ ?_ ?_; (focus (go_grown; done)); (first | exact rx | (refine RdQ.one ?_ ?_ <;> (simp [go_sem]; done))); (focus (simp; omega)); (focus (go_size; done)); intro vb wb h1b h2b h3b; have hXb : Below W2.heap.size W2 wb := Below.trans (by go_grown) h2b; have hzb : W2.heap.size ≤ wb.heap.size := hXb.size; have hYb : Below w.heap.size w wb := hB2.trans (hXb.mono hB2.size); have hyb : w.heap.size ≤ wb.heap.size := hYb.size)
          | (refine step_append_rdg _ rfl (.tmp 34) (.tmp 37) rfl W2.heap.size _ _ [] (l) rfl ?_ rfl (HT.out.keep ?_) ?_ ?_ ?_; (first | exact N1.out | exact N12.out | exact N2.out); (focus (go_grown; done)); (focus (simp; omega)); (focus (go_size; done)); intro va wa h1a h2a h3a; have hXa : Below W2.heap.size W2 wa := Below.trans (by go_grown) h2a; have hza : W2.heap.size ≤ wa.heap.size := hXa.size; have hYa : Below w.heap.size w wa := hB2.trans (hXa.mono hB2.size); have hya : w.heap.size ≤ wa.heap.size := hYa.size; (first | have rx := R2 h3a | have rx := R2d h3a | have rx := R3 h3a | have rx := R3d h3a | skip))
          | (refine step_append_rdg _ rfl (.tmp 41) (.tmp 44) rfl W2.heap.size vb _ _ ([]) rfl (h1b.keep ?_) rfl (HD.out.keep ?_) ?_ ?_ ?_; (focus (go_grown; done)); (focus (go_grown; done)); (focus (simp; omega)); (focus (go_size; done)); intro vc wc h1c h2c h3c; have hXc : Below W2.heap.size W2 wc := Below.trans (by go_grown) h2c; have hzc : W2.heap.size ≤ wc.heap.size := hXc.size)))
      all_goals
        have HC := Lib.hid (OwQ.low h1c hz2)
        have hBc := hB2.trans (hXc.mono hB2.size)
        clear h1a h2a h3a h1b h2b h3b h1c h2c h3c hXa hXb hza hzb kL
        go_wp2_with fail
        all_goals
          go_ret
          exact ⟨_, rfl, by have := HC.out; rw [HI.out]; simpa using this, hBc⟩
theorem imPut_is (base : Nat) (l : List Q) (v : Value) (x1 x2 : Int) (w : World) (h : OwQ base 32 w v l) (ho : OkL l) (hx : okQ x1 x2 = true) (hn : l.length ≤ 100000) (hb : base ≤ w.heap.size) :
    Calls Try.prog 92 #[v, .agg #[.int .i64 x1, .int .i64 x2]] w (PutEnd base (insQ (x1, x2) l) w) := by
  rcases h.2 with ⟨rfl, hz⟩ | ⟨g, cap, cur, rfl, _⟩
  · obtain rfl := List.eq_nil_of_length_eq_zero hz
    exact imPut_nil base x1 x2 w hb
  · exact imPut_at base l g cap x1 x2 w h ho hx hn hb

end Go.Proofs.Ytkeajfgcjmhmiaa
