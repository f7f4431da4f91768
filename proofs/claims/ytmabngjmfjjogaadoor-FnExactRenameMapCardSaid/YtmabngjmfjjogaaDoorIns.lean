/- slices.Insert of one named map, where there is room. -/
import Derived.Test.YtmabngjmfjjogaaDoorMkN
import Derived.Shelf.Spec.SlicesInsert
namespace Go.Proofs.YtmabngjmfjjogaaDoor
open Go.RowKit

/-- A row with x put in at place i. -/
def insL {α : Type} (l : List α) (i : Nat) (x : α) : List α := l.take i ++ x :: l.drop i
theorem insL_len {α : Type} (l : List α) (i : Nat) (x : α) (h : i ≤ l.length) : (insL l i x).length = l.length + 1 := by
  unfold insL; simp only [List.length_append, List.length_take, List.length_cons, List.length_drop]; omega
theorem insL_at {α : Type} {l : List α} {i : Nat} (x : α) (h : i ≤ l.length) (j : Nat) : (insL l i x)[j]? = if j < i then l[j]? else if j = i then some x else l[j - 1]? := by
  unfold insL
  have hl : (l.take i).length = i := by rw [List.length_take]; omega
  by_cases h1 : j < i
  · rw [if_pos h1, List.getElem?_append_left (by omega), List.getElem?_take_of_lt h1]
  · rw [if_neg h1, List.getElem?_append_right (by omega), hl]
    by_cases h2 : j = i
    · rw [if_pos h2, h2, Nat.sub_self]; rfl
    · rw [if_neg h2, show j - i = (j - i - 1) + 1 by omega, List.getElem?_cons_succ, List.getElem?_drop, show i + (j - i - 1) = j - 1 by omega]
theorem insL_mem {α : Type} {l : List α} {i : Nat} {x y : α} (h : y ∈ insL l i x) : y = x ∨ y ∈ l := by
  unfold insL at h
  rw [List.mem_append, List.mem_cons] at h
  rcases h with h | h | h
  · exact .inr (List.mem_of_mem_take h)
  · exact .inl h
  · exact .inr (List.mem_of_mem_drop h)

theorem OwM.ins {base : Nat} {w : World} {ns : List Nm} {ms : List Value} {x : Nm} {f : Value} {i : Nat} (h : OwM base w ns ms) (hf : OwP base 74 w f x.2) (hs : ∀ m ∈ ms, Sep m f) (hi : i ≤ ns.length) : OwM base w (insL ns i x) (insL ms i f) := by
  have him : i ≤ ms.length := by rw [h.1]; exact hi
  refine ⟨by rw [insL_len _ _ _ hi, insL_len _ _ _ him, h.1], fun j n m hn hm => ?_, fun j k m u hjk hm hu => ?_⟩
  · rw [insL_at x hi] at hn
    rw [insL_at f him] at hm
    by_cases h1 : j < i
    · rw [if_pos h1] at hn hm; exact h.2.1 j n m hn hm
    · rw [if_neg h1] at hn hm
      by_cases h2 : j = i
      · rw [if_pos h2] at hn hm; cases hn; cases hm; exact hf
      · rw [if_neg h2] at hn hm; exact h.2.1 _ n m hn hm
  · rw [insL_at f him] at hm hu
    by_cases h1 : j < i
    · rw [if_pos h1] at hm
      by_cases h3 : k < i
      · rw [if_pos h3] at hu; exact h.2.2 j k m u hjk hm hu
      · rw [if_neg h3] at hu
        by_cases h4 : k = i
        · rw [if_pos h4] at hu; cases hu; exact hs m (List.mem_of_getElem? hm)
        · rw [if_neg h4] at hu; exact h.2.2 j (k - 1) m u (by omega) hm hu
    · rw [if_neg h1] at hm
      rw [if_neg (by omega)] at hu
      rw [if_neg (by omega)] at hu
      by_cases h2 : j = i
      · rw [if_pos h2] at hm; cases hm; exact (hs u (List.mem_of_getElem? hu)).symm
      · rw [if_neg h2] at hm; exact h.2.2 (j - 1) (k - 1) m u (by omega) hm hu

theorem run_copy_two (w : World) (dT sT ty elem : TypeId) (b o dLen dCap : Nat) (a : Addr) (sLen sCap k m : Nat) (cs : List Value)
    (hu : Tryd.prog.underlying dT = some (.slice elem)) (hs : (Tryd.prog.info? elem).map (·.size) = some k) (hm : m = Nat.min sLen dLen) (hn : cs.length = m * k)
    (hsrc : ∀ j v, cs[j]? = some v → w.cell? (a.add j) = some v) (hc : ∀ j, j < cs.length → (w.cell? ⟨b, o + j, none⟩).isSome = true) (hf : ∀ j, j < cs.length → w.frozen? ⟨b, o + j, none⟩ = false) (h1 : ∀ v ∈ cs, v.oneCell' = true) :
    (Builtin.copy_ #[dT, sT] ty #[.slice (some ⟨b, o, none⟩) dLen dCap, .slice (some a) sLen sCap]).run Tryd.prog w = .ok (goInt m) (w.setCells b o cs) := by
  have hl := run_loadCells_list (P := Tryd.prog) w a cs hsrc
  have hst := run_storeCells_cells (P := Tryd.prog) b o cs 0 w (by simpa using hc) (by simpa using hf) h1
  cases hq : Tryd.prog.info? elem with
  | none => simp [hq] at hs
  | some i =>
    have hi : i.size = k := by simpa [hq] using hs
    simp [Builtin.copy_, run_underlying hu, Builtin.lenOf, Builtin.firstCells, sizeOf, typeInfo, hq, hi, ← hm, ← hn, hl, hst]

/-- The row with the first of its spare elements. -/
theorem ownsRow_long {base e g n cap : Nat} {w : World} {xs : List Value} (h : w.ownsRow base e 2 (.slice (some ⟨g, 0, none⟩) n cap) n xs) (hm : n + 1 ≤ cap) :
    ∃ a b : Value, w.ownsRow base e 2 (.slice (some ⟨g, 0, none⟩) (n + 1) cap) (n + 1) (xs ++ [a, b]) := by
  rcases h.2 with ⟨h', _⟩ | ⟨g', cap', cur, h', hb, hg, hnc, hcm, hcs, htake⟩
  · simp at h'
  · simp only [Value.slice.injEq, Option.some.injEq, Addr.mk.injEq, and_true, true_and] at h'
    obtain ⟨rfl, rfl⟩ := h'
    have hl : cur.toList.length = cap * 2 := by rw [Array.length_toList]; exact hcs
    have e : cur.toList.take ((n + 1) * 2) = xs ++ [cur.toList[n * 2]'(by omega), cur.toList[n * 2 + 1]'(by omega)] := by
      rw [← htake, show (n + 1) * 2 = n * 2 + 1 + 1 by omega, List.take_add_one, List.take_add_one, List.getElem?_eq_getElem (by omega), List.getElem?_eq_getElem (by omega)]
      simp
    refine ⟨_, _, by rw [List.length_append, h.1]; simp; omega, .inr ⟨g, cap, cur, rfl, hb, hg, hm, hcm, hcs, e⟩⟩
theorem setL_ins {ns : List Nm} {ms : List Value} {i : Nat} {x : Nm} {f a b : Value} (hl : ms.length = ns.length) (hi : i ≤ ns.length) :
    setL (setL (rowN ns ms ++ [a, b]) ((i + 1) * 2) (rowN (ns.drop i) (ms.drop i))) (i * 2) [str x.1, f] = rowN (insL ns i x) (insL ms i f) := by
  have hr := rowN_len hl
  have hd : (rowN (ns.drop i) (ms.drop i)).length = (ns.length - i) * 2 := by rw [rowN_len (by rw [List.length_drop, List.length_drop, hl]), List.length_drop]
  have hX : (rowN ns ms ++ [a, b]).length = (ns.length + 1) * 2 := by rw [List.length_append, hr]; simp; omega
  have ht : (rowN ns ms ++ [a, b]).take (i * 2) = rowN (ns.take i) (ms.take i) := by
    rw [List.take_append_of_le_length (by rw [hr]; omega), rowN_take i hl]
  have hti : (rowN (ns.take i) (ms.take i)).length = i * 2 := by rw [rowN_len (by rw [List.length_take, List.length_take, hl]), List.length_take]; omega
  have e1 : setL (rowN ns ms ++ [a, b]) ((i + 1) * 2) (rowN (ns.drop i) (ms.drop i)) = (rowN ns ms ++ [a, b]).take ((i + 1) * 2) ++ rowN (ns.drop i) (ms.drop i) := by
    have hde : (rowN ns ms ++ [a, b]).drop ((i + 1) * 2 + (rowN (ns.drop i) (ms.drop i)).length) = [] := List.drop_of_length_le (by rw [hd, hX]; omega)
    rw [setL_eq _ _ _ (by rw [hd, hX]; omega), hde, List.append_nil]
  rw [e1, setL_eq _ _ _ (by simp only [List.length_append, List.length_take, List.length_cons, List.length_nil, hd, hr]; omega)]
  have hlt : ((rowN ns ms ++ [a, b]).take ((i + 1) * 2)).length = (i + 1) * 2 := by rw [List.length_take, hX]; omega
  rw [List.take_append_of_le_length (by omega), List.take_take, Nat.min_eq_left (by omega), ht]
  rw [show i * 2 + [str x.1, f].length = (i + 1) * 2 by simp; omega, List.drop_append_of_le_length (by omega), List.drop_of_length_le (by omega), List.nil_append]
  unfold insL
  rw [rowN_app (by rw [List.length_take, List.length_take, hl])]
  simp [rowN]

set_option maxHeartbeats 4000000 in
set_option maxRecDepth 1000000 in
theorem insert_is (base g cap vg i : Nat) (ns : List Nm) (ms : List Value) (x : Nm) (f : Value) (w : World) (hr : w.ownsRow base 89 2 (.slice (some ⟨g, 0, none⟩) ns.length cap) ns.length (rowN ns ms)) (hm : OwM base w ns ms) (hi : i ≤ ns.length) (hn : ns.length ≤ 1000) (hroom : ns.length + 1 ≤ cap)
    (hvg : vg ≠ g) (hvb : w.heap[vg]? = some (.cells #[str x.1, f] 89 (0, 0))) (hf1 : f.oneCell' = true) :
    Calls Tryd.prog 83 #[.slice (some ⟨g, 0, none⟩) ns.length cap, .int .i64 i, .slice (some ⟨vg, 0, none⟩) 1 1] w fun e w' => e = .returned (.slice (some ⟨g, 0, none⟩) (ns.length + 1) cap) ∧ w'.ownsRow base 89 2 (.slice (some ⟨g, 0, none⟩) (ns.length + 1) cap) (ns.length + 1) (rowN (insL ns i x) (insL ms i f)) ∧ But g w w' := by
  obtain ⟨i0, hi0, hz0, hz1, hz2⟩ := info_parts Tryd.infoN
  obtain ⟨hcap, hcm⟩ : ns.length ≤ cap ∧ cap ≤ 9223372036854775807 := by
    obtain ⟨A, c, hv, h1, h2⟩ := ownsRow_slice hr
    injection hv with _ _ h3
    subst h3
    unfold maxLen at h2
    exact ⟨h1, by omega⟩
  have hml := hm.1
  have hrl := rowN_len hml
  obtain ⟨xa, xb, hlong⟩ := ownsRow_long hr hroom
  have hXl : (rowN ns ms ++ [xa, xb]).length = (ns.length + 1) * 2 := by rw [List.length_append, hrl]; simp; omega
  have hcell : ∀ j, j < (ns.length + 1) * 2 → w.cell? ⟨g, j, none⟩ = (rowN ns ms ++ [xa, xb])[j]? := fun j hj => World.ownsRow.cellAt hlong j hj
  have hfz : ∀ j, w.frozen? ⟨g, j, none⟩ = false := fun j => World.ownsRow.frozenAt hr j
  have hsome : ∀ j, j < (ns.length + 1) * 2 → (w.cell? ⟨g, j, none⟩).isSome = true := fun j hj => by rw [hcell j hj, List.getElem?_eq_getElem (by omega)]; rfl
  have v0 : ∀ j v, [str x.1, f][j]? = some v → w.cell? ⟨vg, j, none⟩ = some v := by
    intro j v hj
    rw [cell_of_row w vg j _ _ _ hvb]
    match j, hj with
    | 0, hj => simpa using hj
    | 1, hj => simpa using hj
    | j + 2, hj => simp at hj
  have v1c : ∀ v ∈ [str x.1, f], v.oneCell' = true := by
    intro v hv
    simp at hv
    rcases hv with rfl | rfl
    · rfl
    · exact hf1
  have hsz : (Tryd.prog.info? 89).map (·.size) = some 2 := by rw [hi0]; simp [hz1]
  have mixed : Tryd.prog.follows .mixedOrders = true := by kernel_rfl
  by_cases hlt : i = ns.length
  · subst hlt
    have hs2 := ownsRow_setCells [str x.1, f] (ns.length * 2) w _ hlong
    have hset : setL (rowN ns ms ++ [xa, xb]) (ns.length * 2) [str x.1, f] = rowN (insL ns ns.length x) (insL ms ns.length f) := by
      rw [setL_eq _ _ _ (by rw [hXl]; simp; omega), List.take_append_of_le_length (by omega), List.take_of_length_le (by omega), List.drop_of_length_le (by rw [hXl]; simp; omega), List.append_nil]
      unfold insL
      rw [List.take_length, List.drop_length, List.take_of_length_le (by omega), List.drop_of_length_le (by omega), rowN_app hml]
      rfl
    rw [hset] at hs2
    have HF := Lib.hid hs2
    have hsrc := Lib.hid (show Src Tryd.prog i0.size 46 (.slice (some ⟨vg, 0, none⟩) 1 1) 1 [str x.1, f] w by
      rw [hz1]
      exact Src.ofSlice w Tryd.underlying46 ⟨vg, 0, none⟩ 1 1 _ (by rfl) (fun j u hj => by rw [addr_add]; exact v0 j u hj) v1c)
    have s3 := Lib.hid (show ∀ j, j < [str x.1, f].length → (w.cell? ⟨g, 0 + ns.length * i0.size + j, none⟩).isSome = true by
      intro j hj
      rw [hz1, Nat.zero_add]
      exact hsome _ (by simp at hj; omega))
    have s4 := Lib.hid (show ∀ j, j < [str x.1, f].length → w.frozen? ⟨g, 0 + ns.length * i0.size + j, none⟩ = false by
      intro j hj
      exact hfz _)
    have hW := Lib.hid (show w.setCells g (0 + ns.length * i0.size) [str x.1, f] = w.setCells g (ns.length * 2) [str x.1, f] by rw [hz1, Nat.zero_add])
    clear hcell hfz hsome hset hs2 v0 hXl hlong hvb hr hm hsz hrl v1c
    go_enter Tryd.func83, Tryd.ntmps83
    go_wp2_with (at_builtin; refine wpList_append_room_src _ rfl _ _ 46 46 rfl 89 i0 Tryd.underlying46 hi0 g 0 ns.length cap rfl _ rfl 1 _ hsrc.out hroom s3.out s4.out ?_; rw [hW.out])
    go_ret
    exact ⟨rfl, HF.out⟩
  · have hlt' : i < ns.length := by omega
    obtain ⟨news, hnews⟩ : ∃ news, news = rowN (ns.drop i) (ms.drop i) := ⟨_, rfl⟩
    have hnl : news.length = (ns.length - i) * 2 := by rw [hnews, rowN_len (by rw [List.length_drop, List.length_drop, hml]), List.length_drop]
    have s2' : ∀ u ∈ news, u.oneCell' = true := by
      intro u hu
      rw [hnews] at hu
      obtain ⟨j, hj⟩ := List.getElem?_of_mem hu
      have hjl := (List.getElem?_eq_some_iff.1 hj).1
      rw [← hnews, hnl] at hjl
      have hd1 : j / 2 < (ns.drop i).length := by rw [List.length_drop]; omega
      have hd2 : j / 2 < (ms.drop i).length := by rw [List.length_drop, hml]; omega
      obtain ⟨a, b⟩ := rowN_get (List.getElem?_eq_getElem hd1) (List.getElem?_eq_getElem hd2)
      rcases Nat.mod_two_eq_zero_or_one j with e | e
      · have e2 : j = j / 2 * 2 := by omega
        rw [e2, a] at hj; cases hj; rfl
      · have e2 : j = j / 2 * 2 + 1 := by omega
        rw [e2, b] at hj
        cases hj
        have hk : i + j / 2 < ns.length := by rw [List.length_drop] at hd1; omega
        have hm2 : ms[i + j / 2]? = some (ms.drop i)[j / 2] := by rw [← List.getElem?_drop]; exact List.getElem?_eq_getElem hd2
        obtain ⟨A2, c2, hv2, -, -⟩ := ownsRow_slice (hm.2.1 (i + j / 2) _ _ (List.getElem?_eq_getElem hk) hm2)
        rw [hv2]
        rfl
    have hov : ∀ lb cb, (callFunc 131 #[.slice (some ⟨vg, 0, none⟩) 1 1, .slice (some ⟨g, (i + 1) * 2, none⟩) lb cb]).run Tryd.prog w = .ok (.value (.bool false)) w := fun lb cb => by
      obtain ⟨cur, hcur, hcz⟩ : ∃ cur : Array Value, w.heap[g]? = some (.cells cur 89 (0, 0)) ∧ cur.size ≠ 0 := by
        rcases hr.2 with ⟨h', _⟩ | ⟨g', cap', cur, h', hb, hg, hnc, hcm', hcs, htake⟩
        · simp at h'
        · simp only [Value.slice.injEq, Option.some.injEq, Addr.mk.injEq, and_true, true_and] at h'
          obtain ⟨rfl, rfl⟩ := h'
          exact ⟨cur, hg, by omega⟩
      rw [run_callFunc_extern Tryd.func131 (by kernel_rfl) (by kernel_rfl) (by kernel_rfl) (e := Extern.SlicesOverlaps.overlaps #[46, 46] #[4]) (by kernel_rfl),
        Lib.run_overlaps_apart w 46 4 89 Tryd.underlying46 2 (fun w => by simp [sizeOf, typeInfo, hi0, hz1]) ⟨vg, 0, none⟩ ⟨g, (i + 1) * 2, none⟩ 1 1 lb cb hvg 89 89 2 cur.size (by simp [World.shape?, hvb]) (by simp [World.shape?, hcur]) hcz (frozen_of_row w vg 0 _ _ hvb) (frozen_of_row w vg 2 _ _ hvb)]
      rfl
    have hcp1 : ∀ ty dc sc, (Builtin.copy_ #[46, 46] ty #[.slice (some ⟨g, (i + 1) * 2, none⟩) (ns.length - i) dc, .slice (some ⟨g, i * 2, none⟩) (ns.length + 1 - i) sc]).run Tryd.prog w.drew = .ok (goInt ((ns.length - i : Nat) : Int)) (w.drew.setCells g ((i + 1) * 2) news) := fun ty dc sc =>
      run_copy_two w.drew _ _ ty 89 g ((i + 1) * 2) (ns.length - i) dc ⟨g, i * 2, none⟩ (ns.length + 1 - i) sc 2 (ns.length - i) news Tryd.underlying46 hsz (by simp only [Nat.min_def]; split <;> omega) hnl
        (fun j v hj => by
          have ht : j < (ns.length - i) * 2 := by have := (List.getElem?_eq_some_iff.1 hj).1; rwa [hnl] at this
          rw [Addr.add_lit]
          show w.cell? _ = _
          rw [hcell _ (by omega), List.getElem?_append_left (by rw [hrl]; omega)]
          rw [hnews, ← rowN_drop i hml, List.getElem?_drop] at hj
          exact hj)
        (fun j hj => hsome _ (by omega)) (fun j hj => hfz _) s2'
    obtain ⟨W1, hW1⟩ : ∃ W1, W1 = w.drew.setCells g ((i + 1) * 2) news := ⟨_, rfl⟩
    have hs1 := ownsRow_setCells news ((i + 1) * 2) w.drew _ (ownsRow_keep hlong ((Below.refl _ _).drew))
    have hl1 : (setL (rowN ns ms ++ [xa, xb]) ((i + 1) * 2) news).length = (ns.length + 1) * 2 := by rw [setL_eq _ _ _ (by rw [hXl, hnl]; omega)]; simp only [List.length_append, List.length_take, List.length_drop, List.length_cons, List.length_nil, hnl, hrl]; omega
    rw [← hW1] at hs1 hcp1
    have hsome1 : ∀ j, j < (ns.length + 1) * 2 → (W1.cell? ⟨g, j, none⟩).isSome = true := fun j hj => by rw [World.ownsRow.cellAt hs1.1 j hj, List.getElem?_eq_getElem (by omega)]; rfl
    have hfz1 : ∀ j, W1.frozen? ⟨g, j, none⟩ = false := fun j => World.ownsRow.frozenAt hs1.1 j
    have hv1 : W1.heap[vg]? = some (.cells #[str x.1, f] 89 (0, 0)) := by
      rw [hs1.2.block vg (Array.getElem?_eq_some_iff.1 hvb).1 hvg]; exact hvb
    have v01 : ∀ j v, [str x.1, f][j]? = some v → W1.cell? ⟨vg, j, none⟩ = some v := by
      intro j v hj
      rw [cell_of_row W1 vg j _ _ _ hv1]
      match j, hj with
      | 0, hj => simpa using hj
      | 1, hj => simpa using hj
      | j + 2, hj => simp at hj
    have hcp2 : ∀ ty dc, (Builtin.copy_ #[46, 46] ty #[.slice (some ⟨g, i * 2, none⟩) (ns.length + 1 - i) dc, .slice (some ⟨vg, 0, none⟩) 1 1]).run Tryd.prog W1 = .ok (goInt ((1 : Nat) : Int)) (W1.setCells g (i * 2) [str x.1, f]) := fun ty dc =>
      run_copy_two W1 _ _ ty 89 g (i * 2) (ns.length + 1 - i) dc ⟨vg, 0, none⟩ 1 1 2 1 [str x.1, f] Tryd.underlying46 hsz (by simp only [Nat.min_def]; split <;> omega) rfl
        (fun j v hj => by rw [addr_add]; exact v01 j v hj)
        (fun j hj => hsome1 _ (by simp at hj; omega)) (fun j hj => hfz1 _) v1c
    have hs2 := ownsRow_setCells [str x.1, f] (i * 2) W1 _ hs1.1
    have HF := Lib.hid (show (W1.setCells g (i * 2) [str x.1, f]).ownsRow base 89 2 (.slice (some ⟨g, 0, none⟩) (ns.length + 1) cap) (ns.length + 1) (rowN (insL ns i x) (insL ms i f)) ∧ But g w (W1.setCells g (i * 2) [str x.1, f]) by
      refine ⟨?_, ((But.of_below ((Below.refl _ w).drew) (Nat.le_refl _)).trans hs1.2).trans hs2.2⟩
      have := hs2.1
      rw [hnews, setL_ins hml hi] at this
      exact this)
    have hw1 : IntKind.i64.wrap ((i : Int) + 1) = (i : Int) + 1 := IntWalk.i64_in _ (by omega)
    have hw2 : IntKind.i64.wrap ((ns.length : Int) + 1) = (ns.length : Int) + 1 := IntWalk.i64_in _ (by omega)
    have hb0 : ¬ (i : Int) = (ns.length : Int) := by omega
    have hb1 : (0 : Int) ≤ (i : Int) + 1 := by omega
    have hb1' : (0 : Int) ≤ (i : Int) := by omega
    have hin : i ≤ ns.length := hi
    have htn : ((i : Int) + 1).toNat = i + 1 := by omega
    have htn2 : ((ns.length : Int) + 1).toNat = ns.length + 1 := by omega
    have hb2 : ¬ (cap = i + 1) := by omega
    have hb3 : (i : Int) ≤ (ns.length : Int) + 1 := by omega
    have hb4 : ¬ (cap = i) := by omega
    have hb5 : (i : Int) + 1 ≤ (ns.length : Int) := by omega
    have hb6 : (ns.length : Int) + 1 ≤ (cap : Int) := by omega
    have hb7 : (i : Int) + 1 ≤ (ns.length : Int) + 1 := by omega
    have hb8 : ¬ ((cap : Int) < (ns.length : Int) + 1) := by omega
    have hb9 : (0 : Int) ≤ (ns.length : Int) + 1 := by omega
    clear hcell hfz hsome hs1 hs2 v0 v01 hXl hlong hvb hv1 hr hm hsz hrl v1c hW1 hl1 hsome1 hfz1 s2' hnews hnl hlt
    go_enter Tryd.func83, Tryd.ntmps83
    go_wp2_with (simp only [hov])
    go_region_law_o (refine step_copy_runI rfl _ _ 46 46 rfl _ _ (by simp [Act.eval, Act.put]) (by simp [Act.eval, Act.put]) (hcp1 _ _ _) ?_)
    go_wp2_with (at_builtin; refine wpList_copy_runI _ rfl _ _ 46 46 rfl _ _ rfl rfl (hcp2 _ _) ?_)
    go_ret
    exact ⟨rfl, HF.out⟩

end Go.Proofs.YtmabngjmfjjogaaDoor
