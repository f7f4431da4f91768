/- Laps: what they are, and a row of rows of the call's own. -/
import Derived.Test.YtkeajfgcjmhmiaaSlopes
import Derived.Test.YtkeajfgcjmhmiaaMarks
namespace Go.Proofs.Ytkeajfgcjmhmiaa
open Go.RowKit

abbrev Row3 := Int × Int × Int
def sgnQ (s : Q) : Int := cmpQ s.1 s.2 0 1
def addLap (rs : List Row3) (k : Nat) (g : Int) : List Row3 :=
  match rs.getLast? with
  | some r => if r.2.2 = g then rs.dropLast ++ [(r.1, ((k : Int) + 1), r.2.2)] else rs ++ [((k : Int), (k : Int) + 1, g)]
  | none => [((k : Int), (k : Int) + 1, g)]
def lapN (sl : List Q) : Nat → List Row3
  | 0 => []
  | k + 1 => match sl[k]? with
    | some s => addLap (lapN sl k) k (sgnQ s)
    | none => lapN sl k
theorem lapN_next {sl : List Q} {k : Nat} {s : Q} (h : sl[k]? = some s) : lapN sl (k + 1) = addLap (lapN sl k) k (sgnQ s) := by rw [lapN, h]
theorem addLap_none {rs : List Row3} {k : Nat} {g : Int} (h : rs = []) : addLap rs k g = rs ++ [((k : Int), (k : Int) + 1, g)] := by subst h; rfl
theorem addLap_new {rs : List Row3} {r : Row3} {k : Nat} {g : Int} (h : rs[rs.length - 1]? = some r) (hn : r.2.2 ≠ g) : addLap rs k g = rs ++ [((k : Int), (k : Int) + 1, g)] := by
  have : rs.getLast? = some r := by rw [List.getLast?_eq_getElem?]; exact h
  unfold addLap
  rw [this]
  simp only
  rw [if_neg hn]
theorem addLap_same {rs : List Row3} {r : Row3} {k : Nat} (h : rs[rs.length - 1]? = some r) : addLap rs k r.2.2 = rs.set (rs.length - 1) (r.1, ((k : Int) + 1), r.2.2) := by
  have hg : rs.getLast? = some r := by rw [List.getLast?_eq_getElem?]; exact h
  have hne : rs ≠ [] := by rintro rfl; simp at h
  unfold addLap
  rw [hg]
  simp only
  rw [if_pos trivial]
  have h1 : 0 < rs.length := List.length_pos_iff.2 hne
  apply List.ext_getElem?
  intro i
  rw [List.getElem?_append, List.getElem?_set, List.length_dropLast]
  by_cases hi : i < rs.length - 1
  · rw [if_pos hi, List.getElem?_dropLast, if_pos hi, if_neg (by omega)]
  · rw [if_neg hi]
    by_cases he : i = rs.length - 1
    · subst he; rw [if_pos rfl, if_pos (by omega), Nat.sub_self]; rfl
    · rw [if_neg (by omega), List.getElem?_eq_none (by simp; omega), List.getElem?_eq_none (by omega)]
theorem addLap_len (rs : List Row3) (k : Nat) (g : Int) : (addLap rs k g).length ≤ rs.length + 1 ∧ 0 < (addLap rs k g).length := by
  unfold addLap
  split
  · split <;> simp
  · simp
theorem lapN_len (sl : List Q) : ∀ k, (lapN sl k).length ≤ k
  | 0 => Nat.le_refl _
  | k + 1 => by
    have := lapN_len sl k
    rw [lapN]
    split
    · rename_i q _; have := (addLap_len (lapN sl k) k (sgnQ q)).1; omega
    · omega
theorem lapN_pos {sl : List Q} {k : Nat} (hk : k < sl.length) : 0 < (lapN sl (k + 1)).length := by
  rw [lapN_next (List.getElem?_eq_getElem hk)]
  exact (addLap_len _ _ _).2
theorem lapN_first (sl : List Q) : ∀ k, ∀ r ∈ lapN sl k, ∃ j : Nat, r.1 = j ∧ j < k
  | 0, r, h => by simp [lapN] at h
  | k + 1, r, h => by
    have up : ∀ r ∈ lapN sl k, ∃ j : Nat, r.1 = j ∧ j < k + 1 := fun r hr => by obtain ⟨j, h1, h2⟩ := lapN_first sl k r hr; exact ⟨j, h1, by omega⟩
    rw [lapN] at h
    split at h
    · unfold addLap at h
      split at h
      · rename_i r0 hr0
        split at h
        · rw [List.mem_append, List.mem_singleton] at h
          rcases h with h | rfl
          · exact up r (by rw [List.dropLast_eq_take] at h; exact List.mem_of_mem_take h)
          · exact up r0 (List.mem_of_getLast? hr0)
        · rw [List.mem_append, List.mem_singleton] at h
          rcases h with h | rfl
          · exact up r h
          · exact ⟨k, rfl, by omega⟩
      · rw [List.mem_singleton] at h; subst h; exact ⟨k, rfl, by omega⟩
    · exact up r h

def rowsV (bs : List Nat) : List Value := bs.map fun b => .slice (some ⟨b, 0, none⟩) 3 3
def row3 (r : Row3) : Obj := .cells #[.int .i64 r.1, .int .i64 r.2.1, .int .i64 r.2.2] 3 (0, 0)
/-- A slice of slices of three numbers, all of the call's own. -/
def OwL (base : Nat) (w : World) (v : Value) (rs : List Row3) : Prop :=
  ∃ bs : List Nat, bs.length = rs.length ∧ w.ownsRow base 44 1 v rs.length (rowsV bs) ∧ bs.Nodup ∧ ∀ (i b : Nat) (r : Row3), bs[i]? = some b → rs[i]? = some r → base ≤ b ∧ w.heap[b]? = some (row3 r)
theorem OwL.nil (base : Nat) (w : World) : OwL base w (.slice none 0 0) [] := ⟨[], rfl, World.ownsRow_nil _ _ _ _, List.nodup_nil, fun i b r h => by simp at h⟩
theorem heap_lt {w : World} {b : Nat} {o : Obj} (h : w.heap[b]? = some o) : b < w.heap.size := (Array.getElem?_eq_some_iff.1 h).1
theorem OwL.keep {base : Nat} {w w' : World} {v : Value} {rs : List Row3} (h : OwL base w v rs) (hb : Below w.heap.size w w') : OwL base w' v rs := by
  obtain ⟨bs, h1, h2, h3, h4⟩ := h
  refine ⟨bs, h1, ownsRow_keep h2 hb, h3, fun i b r hi hr => ⟨(h4 i b r hi hr).1, ?_⟩⟩
  have := (h4 i b r hi hr).2
  rw [hb.block b (heap_lt this)]
  exact this
theorem OwL.low {base B : Nat} {w : World} {v : Value} {rs : List Row3} (h : OwL base w v rs) (hb : B ≤ base) : OwL B w v rs := by
  obtain ⟨bs, h1, h2, h3, h4⟩ := h
  exact ⟨bs, h1, ownsRow_low h2 hb, h3, fun i b r hi hr => ⟨Nat.le_trans hb (h4 i b r hi hr).1, (h4 i b r hi hr).2⟩⟩
theorem row3_cells {w : World} {b : Nat} {r : Row3} (h : w.heap[b]? = some (row3 r)) : Slot w b 0 (.int .i64 r.1) ∧ Slot w b 1 (.int .i64 r.2.1) ∧ Slot w b 2 (.int .i64 r.2.2) := by
  unfold row3 at h
  refine ⟨⟨?_, ?_⟩, ⟨?_, ?_⟩, ?_, ?_⟩ <;> simp [World.cell?, World.frozen?, h]
/-- Row i: where its slice lies and what it holds. -/
theorem OwL.get {base : Nat} {w : World} {v : Value} {rs : List Row3} (h : OwL base w v rs) {i : Nat} {r : Row3} (hr : rs[i]? = some r) :
    ∃ g cap b, v = .slice (some ⟨g, 0, none⟩) rs.length cap ∧ rs.length ≤ cap ∧ cap ≤ maxLen ∧ base ≤ g ∧ base ≤ b ∧ w.cell? ⟨g, i, none⟩ = some (.slice (some ⟨b, 0, none⟩) 3 3) ∧ w.heap[b]? = some (row3 r) := by
  obtain ⟨bs, h1, h2, h3, h4⟩ := h
  have hil : i < rs.length := (List.getElem?_eq_some_iff.1 hr).1
  have hb : bs[i]? = some bs[i] := List.getElem?_eq_getElem (by omega)
  obtain ⟨a1, a2⟩ := h4 i _ r hb hr
  rcases h2.2 with ⟨-, h0⟩ | ⟨g, cap, cur, hv, hg, hh, hle, hm, hs, ht⟩
  · omega
  · refine ⟨g, cap, bs[i], hv, hle, hm, hg, a1, ?_, a2⟩
    have := h2.cells (g := g) (by rw [hv]; rfl) i (.slice (some ⟨bs[i], 0, none⟩) 3 3) (by unfold rowsV; rw [List.getElem?_map, hb]; rfl)
    have hadd : (⟨g, 0, none⟩ : Addr).add i = ⟨g, i, none⟩ := by unfold Addr.add; split <;> simp_all
    rwa [hadd] at this
/-- The outer slice alone. -/
theorem OwL.lit {base : Nat} {w : World} {v : Value} {rs : List Row3} (h : OwL base w v rs) (h0 : 0 < rs.length) : ∃ g cap, v = .slice (some ⟨g, 0, none⟩) rs.length cap ∧ rs.length ≤ cap ∧ cap ≤ maxLen := by
  obtain ⟨g, cap, b, h1, h2, h3, -⟩ := h.get (List.getElem?_eq_getElem h0)
  exact ⟨g, cap, h1, h2, h3⟩
/-- A store into a row's middle number. -/
theorem OwL.put {base : Nat} {w : World} {v : Value} {rs : List Row3} (h : OwL base w v rs) {i g cap b : Nat} {r : Row3} (hr : rs[i]? = some r) (hv : v = .slice (some ⟨g, 0, none⟩) rs.length cap) (hc : w.cell? ⟨g, i, none⟩ = some (.slice (some ⟨b, 0, none⟩) 3 3)) (e : Int) :
    OwL base (w.setCell ⟨b, 1, none⟩ (.int .i64 e)) v (rs.set i (r.1, e, r.2.2)) ∧ Below base w (w.setCell ⟨b, 1, none⟩ (.int .i64 e)) := by
  obtain ⟨bs, h1, h2, h3, h4⟩ := h
  have hil : i < rs.length := (List.getElem?_eq_some_iff.1 hr).1
  have hb : bs[i]? = some bs[i] := List.getElem?_eq_getElem (by omega)
  obtain rfl : bs[i] = b := by
    have := h2.cells (g := g) (by rw [hv]; rfl) i (.slice (some ⟨bs[i], 0, none⟩) 3 3) (by unfold rowsV; rw [List.getElem?_map, hb]; rfl)
    have hadd : (⟨g, 0, none⟩ : Addr).add i = ⟨g, i, none⟩ := by unfold Addr.add; split <;> simp_all
    rw [hadd, hc] at this
    cases this
    rfl
  obtain ⟨a1, a2⟩ := h4 i _ r hb hr
  have hold : ∀ k, k ≠ bs[i] → (w.setCell ⟨bs[i], 1, none⟩ (.int .i64 e)).heap[k]? = w.heap[k]? := fun k hk => Below.heap_setCell _ _ _ _ hk
  have hnew : (w.setCell ⟨bs[i], 1, none⟩ (.int .i64 e)).heap[bs[i]]? = some (row3 (r.1, e, r.2.2)) := by
    unfold row3 at a2 ⊢
    have hlt := heap_lt a2
    simp [World.setCell, Array.getElem?_modify, a2]
  refine ⟨⟨bs, by rw [List.length_set]; exact h1, ?_, h3, fun j c q hj hq => ?_⟩, (Below.refl _ _).setCell (p := ⟨bs[i], 1, none⟩) a1 _⟩
  · rw [List.length_set]
    refine ⟨h2.1, ?_⟩
    rcases h2.2 with hn | ⟨g', cap', cur, hv', hg, hh, rest⟩
    · exact .inl hn
    · refine .inr ⟨g', cap', cur, hv', hg, ?_, rest⟩
      rw [hold g' (by rintro rfl; rw [hh] at a2; unfold row3 at a2; cases a2)]
      exact hh
  · rw [List.getElem?_set] at hq
    by_cases hji : i = j
    · subst hji
      rw [if_pos rfl, if_pos hil] at hq
      rw [hb] at hj
      cases hj; cases hq
      exact ⟨a1, hnew⟩
    · rw [if_neg hji] at hq
      obtain ⟨c1, c2⟩ := h4 j c q hj hq
      refine ⟨c1, ?_⟩
      rw [hold c ?_]; exact c2
      rintro rfl
      obtain ⟨hj1, hj2⟩ := List.getElem?_eq_some_iff.1 hj
      have hpw := List.pairwise_iff_getElem.1 h3
      rcases Nat.lt_or_gt_of_ne hji with hlt | hlt
      · exact hpw i j (by omega) hj1 hlt hj2.symm
      · exact hpw j i hj1 (by omega) hlt hj2

theorem Try.infoL : (Try.prog.info? 44).map (fun i => (i.zero, i.size, i.bytes)) = some (some (.slice none 0 0), 1, 24) := by kernel_rfl
theorem append_l {ops : Array Oper} {rest : List Oper} {o : Oper} {a : Act} {K : Exit → Act → World → Prop} (w0 w : World) (hgd : o.guard = none) (s x : Operand)
    (ho : o.op = .call { callee := .builtin .append, args := #[s, x], argTypes := #[25, 25] })
    (base : Nat) (v : Value) (rs : List Row3) (hs : a.eval s = v) (hown : OwL base w0 v rs) (hX : Below w0.heap.size w0 w)
    (g c b : Nat) (r : Row3) (hx : a.eval x = .slice (some ⟨g, 0, none⟩) 1 c) (hc : w.cell? ⟨g, 0, none⟩ = some (.slice (some ⟨b, 0, none⟩) 3 3)) (hb : w.heap[b]? = some (row3 r)) (hnew : w0.heap.size ≤ b)
    (hlen : rs.length ≤ 900000) (hbase : base ≤ w0.heap.size)
    (h : ∀ v' w', OwL base w' v' (rs ++ [r]) → Below base w w' → wpList Try.prog ops K rest (a.put o.dst v') w') : wpList Try.prog ops K (o :: rest) a w := by
  obtain ⟨i, hi, hz, hsz, hby⟩ := info_parts Try.infoL
  have hbw : base ≤ w.heap.size := Nat.le_trans hbase hX.size
  obtain ⟨bs, h1, h2, h3, h4⟩ := hown
  have hlt : ∀ c ∈ bs, c < w0.heap.size := fun c hc => by
    obtain ⟨j, hj, rfl⟩ := List.getElem_of_mem hc
    exact heap_lt (h4 j _ _ (List.getElem?_eq_getElem hj) (List.getElem?_eq_getElem (by omega))).2
  have h2' := ownsRow_keep h2 hX
  have hadd : (⟨g, 0, none⟩ : Addr).add 0 = ⟨g, 0, none⟩ := by unfold Addr.add; split <;> simp_all
  refine wpList_append_own w hgd s x 25 ho base 44 i _ 1 24 Try.underlying25 hi hz hsz hby rfl (by decide) v rs.length (rowsV bs) hs h2' ⟨g, 0, none⟩ 1 c [.slice (some ⟨b, 0, none⟩) 3 3] hx rfl (fun j u hj => ?_) (fun u hu => ?_) (by unfold maxLen; omega) (by omega) hbw ?_
  · cases j with
    | zero => simp at hj; subst hj; rw [hadd]; exact hc
    | succ j => simp at hj
  · simp at hu; subst hu; rfl
  · intro v' w' k1 k2 _
    have hblk : ∀ k, k < w.heap.size → w.heap[k]? ≠ none → (∀ r', w.heap[k]? = some (row3 r') → w'.heap[k]? = w.heap[k]?) := fun k hk _ r' hr' => by
      refine k2.block k hk ?_
      intro e
      rcases h2'.2 with ⟨rfl, _⟩ | ⟨g', cap', cur, rfl, hg, hh, _⟩
      · simp [Value.ownBlock] at e
      · simp [Value.ownBlock] at e
        subst e
        rw [hh] at hr'
        unfold row3 at hr'
        cases hr'
    refine h v' w' ⟨bs ++ [b], by simp [h1], ?_, ?_, fun j c' q hj hq => ?_⟩ ((Below.refl _ _).grown k2 hbw (fun k hk => (h2'.lt k hk).1))
    · rw [List.length_append, List.length_singleton]; unfold rowsV at k1 ⊢; rw [List.map_append]; exact k1
    · rw [List.nodup_append]
      refine ⟨h3, by simp, fun x hx y hy => ?_⟩
      rw [List.mem_singleton] at hy; subst hy
      have := hlt x hx
      omega
    · rw [List.getElem?_append] at hj hq
      by_cases hjl : j < rs.length
      · rw [if_pos (by omega)] at hj; rw [if_pos hjl] at hq
        obtain ⟨c1, c2⟩ := h4 j c' q hj hq
        have c3 : w.heap[c']? = some (row3 q) := by rw [hX.block c' (heap_lt c2)]; exact c2
        exact ⟨c1, by rw [hblk c' (heap_lt c3) (by rw [c3]; simp) q c3]; exact c3⟩
      · rw [if_neg (by omega)] at hj; rw [if_neg hjl] at hq
        have hj0 : j = rs.length := by have := (List.getElem?_eq_some_iff.1 hq).1; simp at this; omega
        subst hj0
        rw [Nat.sub_self] at hq
        rw [h1, Nat.sub_self] at hj
        simp at hj hq
        subst hj; subst hq
        exact ⟨Nat.le_trans hbase hnew, by rw [hblk b (heap_lt hb) (by rw [hb]; simp) r hb]; exact hb⟩

end Go.Proofs.Ytkeajfgcjmhmiaa
