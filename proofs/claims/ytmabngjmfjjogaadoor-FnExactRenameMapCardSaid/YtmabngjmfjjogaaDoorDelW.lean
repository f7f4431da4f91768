/- slices.Delete of one named map. -/
import Derived.Test.YtmabngjmfjjogaaDoorDelN
namespace Go.Proofs.YtmabngjmfjjogaaDoor
open Go.RowKit

set_option maxHeartbeats 4000000 in
set_option maxRecDepth 1000000 in
theorem delete_is (base g cap i : Nat) (ns : List Nm) (ms : List Value) (w : World) (hr : w.ownsRow base 89 2 (.slice (some ⟨g, 0, none⟩) ns.length cap) ns.length (rowN ns ms)) (hm : OwM base w ns ms) (hi : i < ns.length) (hn : ns.length ≤ 1000) :
    Calls Tryd.prog 123 #[.slice (some ⟨g, 0, none⟩) ns.length cap, .int .i64 i, .int .i64 ((i : Int) + 1)] w fun e w' => e = .returned (.slice (some ⟨g, 0, none⟩) (ns.length - 1) cap) ∧ w'.ownsRow base 89 2 (.slice (some ⟨g, 0, none⟩) (ns.length - 1) cap) (ns.length - 1) (rowN (ns.eraseIdx i) (ms.eraseIdx i)) ∧ OwM base w' ns ms ∧ But g w w' := by
  have hap := OwN.apart hr hm
  obtain ⟨i0, hi0, hz0, hz1, hz2⟩ := info_parts Tryd.infoN
  obtain ⟨hcap, hcm⟩ : ns.length ≤ cap ∧ cap ≤ 9223372036854775807 := by
    obtain ⟨A, c, hv, h1, h2⟩ := ownsRow_slice hr
    injection hv with _ _ h3
    subst h3
    unfold maxLen at h2
    exact ⟨h1, by omega⟩
  have hml := hm.1
  have hrl := rowN_len hml
  obtain ⟨news, hnews⟩ : ∃ news, news = rowN (ns.drop (i + 1)) (ms.drop (i + 1)) := ⟨_, rfl⟩
  have hnl : news.length = (ns.length - (i + 1)) * 2 := by rw [hnews, rowN_len (by rw [List.length_drop, List.length_drop, hml]), List.length_drop]
  have hcell : ∀ j, j < ns.length * 2 → w.cell? ⟨g, j, none⟩ = (rowN ns ms)[j]? := fun j hj => World.ownsRow.cellAt hr j hj
  have hfz : ∀ j, w.frozen? ⟨g, j, none⟩ = false := fun j => World.ownsRow.frozenAt hr j
  have hsome : ∀ j, j < ns.length * 2 → (w.cell? ⟨g, j, none⟩).isSome = true := fun j hj => by rw [hcell j hj, List.getElem?_eq_getElem (by omega)]; rfl
  -- the world behind the append
  have hs1 := ownsRow_setCells news (i * 2) w.drew (rowN ns ms) (ownsRow_keep hr ((Below.refl _ _).drew))
  obtain ⟨W1, hW1⟩ : ∃ W1, W1 = w.drew.setCells g (0 + i * 2) news := ⟨_, rfl⟩
  rw [Nat.zero_add] at hW1
  rw [← hW1] at hs1
  have hl1 : (setL (rowN ns ms) (i * 2) news).length = ns.length * 2 := by rw [setL_eq _ _ _ (by omega)]; simp only [List.length_append, List.length_take, List.length_drop]; omega
  have hcl : ∀ ty, (Builtin.clear_ #[46] ty #[.slice (some ⟨g, (ns.length - 1) * 2, none⟩) 1 (cap - (ns.length - 1))]).run Tryd.prog W1 = .ok (.tuple #[]) (W1.setCells g ((ns.length - 1) * 2) [.string ByteArray.empty, .slice none 0 0]) := fun ty => by
    refine run_clear_one W1 ty g _ _ ?_ ?_ (World.ownsRow.frozenAt hs1.1 _) (World.ownsRow.frozenAt hs1.1 _)
    · rw [World.ownsRow.cellAt hs1.1 _ (by omega), List.getElem?_eq_getElem (by rw [hl1]; omega)]; rfl
    · rw [World.ownsRow.cellAt hs1.1 _ (by omega), List.getElem?_eq_getElem (by rw [hl1]; omega)]; rfl
  have hs2 := ownsRow_setCells [.string ByteArray.empty, .slice none 0 0] ((ns.length - 1) * 2) W1 _ hs1.1
  have hs3 := ownsRow_short hs2.1 (show ns.length - 1 ≤ ns.length by omega)
  rw [hnews, rowN_erase hml hi] at hs3
  have hbut : But g w (W1.setCells g ((ns.length - 1) * 2) [.string ByteArray.empty, .slice none 0 0]) := ((But.of_below ((Below.refl _ w).drew) (Nat.le_refl _)).trans hs1.2).trans hs2.2
  have HF := Lib.hid (And.intro hs3 (And.intro (hm.but hbut (fun m hmm hh => hap m hmm g rfl hh)) hbut))
  obtain ⟨A, hA, hsrc⟩ : ∃ A : Addr, (if cap = i + 1 then some (⟨g, 0, none⟩ : Addr) else some ⟨g, (i + 1) * 2, none⟩) = some A ∧ (∀ t u, news[t]? = some u → w.drew.cell? (A.add t) = some u) := by
    by_cases h : cap = i + 1
    · refine ⟨⟨g, 0, none⟩, by simp [h], fun t u hu => ?_⟩
      have h0 : news.length = 0 := by rw [hnl]; omega
      rw [List.length_eq_zero_iff.1 h0] at hu
      simp at hu
    · refine ⟨⟨g, (i + 1) * 2, none⟩, by simp [h], fun t u hu => ?_⟩
      have ht : t < (ns.length - (i + 1)) * 2 := by
        have := (List.getElem?_eq_some_iff.1 hu).1
        rwa [hnl] at this
      have hadd : (⟨g, (i + 1) * 2, none⟩ : Addr).add t = ⟨g, (i + 1) * 2 + t, none⟩ := by unfold Addr.add; split <;> simp_all
      rw [hadd]
      show w.cell? _ = _
      rw [hcell _ (by omega)]
      rw [hnews, ← rowN_drop (i + 1) hml, List.getElem?_drop] at hu
      exact hu
  have HSrc := Lib.hid hsrc
  have s1 := Lib.hid hnl
  have s2' : ∀ u ∈ news, u.oneCell' = true := by
    intro u hu
    rw [hnews] at hu
    obtain ⟨j, hj⟩ := List.getElem?_of_mem hu
    have hjl := (List.getElem?_eq_some_iff.1 hj).1
    rw [← hnews, hnl] at hjl
    have hd1 : j / 2 < (ns.drop (i + 1)).length := by rw [List.length_drop]; omega
    have hd2 : j / 2 < (ms.drop (i + 1)).length := by rw [List.length_drop, hml]; omega
    obtain ⟨a, b⟩ := rowN_get (List.getElem?_eq_getElem hd1) (List.getElem?_eq_getElem hd2)
    rcases Nat.mod_two_eq_zero_or_one j with e | e
    · have e2 : j = j / 2 * 2 := by omega
      rw [e2, a] at hj; cases hj; rfl
    · have e2 : j = j / 2 * 2 + 1 := by omega
      rw [e2, b] at hj
      cases hj
      have hk : i + 1 + j / 2 < ns.length := by rw [List.length_drop] at hd1; omega
      have hm2 : ms[i + 1 + j / 2]? = some (ms.drop (i + 1))[j / 2] := by rw [← List.getElem?_drop]; exact List.getElem?_eq_getElem hd2
      obtain ⟨A2, c2, hv2, -, -⟩ := ownsRow_slice (hm.2.1 (i + 1 + j / 2) _ _ (List.getElem?_eq_getElem hk) hm2)
      rw [hv2]
      rfl
  have s2 := Lib.hid s2'
  have s3' : ∀ t, t < news.length → (w.drew.cell? ⟨g, 0 + i * 2 + t, none⟩).isSome = true ∧ w.drew.frozen? ⟨g, 0 + i * 2 + t, none⟩ = false := by
    intro t ht
    rw [hnl] at ht
    exact ⟨hsome _ (by omega), hfz _⟩
  have s3 := Lib.hid s3'
  have hW := Lib.hid (show W1 = w.drew.setCells g (0 + i * 2) news by rw [Nat.zero_add]; exact hW1)
  have b0 : (0 : Int) ≤ (i : Int) := by omega
  have b1 : (i : Int) + 1 ≤ (ns.length : Int) := by omega
  have b2 : (ns.length : Int) ≤ (cap : Int) := by omega
  have b3 : (i : Int) ≤ (cap : Int) := by omega
  have b4 : (i : Int) + 1 ≤ (cap : Int) := by omega
  have b5 : ¬ (i : Int) = (i : Int) + 1 := by omega
  have b6 : (0 : Int) ≤ (i : Int) + 1 := by omega
  have b7 : (0 : Int) ≤ ((ns.length - 1 : Nat) : Int) := by omega
  have b8 : ((ns.length - 1 : Nat) : Int) ≤ (ns.length : Int) := by omega
  have b9 : ¬ cap = ns.length - 1 := by omega
  have he1 : ns.length - (ns.length - 1) = 1 := by omega
  have mixed : Tryd.prog.follows .mixedOrders = true := by kernel_rfl
  have hic : i ≤ cap := by omega
  have hjc : i + 1 ≤ cap := by omega
  have hin : i + (ns.length - (i + 1)) = ns.length - 1 := by omega
  clear hsrc s2' s3' hW1 hs1 hs2 hs3 hcell hfz hsome hbut hnl hnews hr hm hap
  go_enter Tryd.func123, Tryd.ntmps123
  go_wp2_with fail
  go_region_law_o (refine step_append_room rfl (.tmp 22) (.tmp 25) 46 rfl 89 i0 2 Tryd.underlying46 hi0 hz1 g 0 i cap (by simp [Act.eval, Act.put]) A (ns.length - (i + 1)) (cap - (i + 1)) news (by simp [Act.eval, Act.put]) s1.out HSrc.out s2.out (by omega) s3.out ?_; rw [← hW.out])
  go_wp2
  go_ret
  exact ⟨rfl, HF.out⟩

end Go.Proofs.YtmabngjmfjjogaaDoor
