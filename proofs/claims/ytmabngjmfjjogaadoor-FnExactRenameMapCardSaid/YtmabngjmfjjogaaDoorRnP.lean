/- Renaming a named map: the plain law. -/
import Derived.Test.YtmabngjmfjjogaaDoorWit
namespace Go.Proofs.YtmabngjmfjjogaaDoor
open Go.RowKit

def mapOf (ns : List Nm) (old : List UInt8) : List Pt := ((ns.find? fun n => decide (n.1 = old)).map (·.2)).getD []
theorem mapOf_eq {ns : List Nm} {old : List UInt8} (h : SrtE ns) {i : Nat} {n : Nm} (hi : ns[i]? = some n) (he : n.1 = old) : mapOf ns old = n.2 := by
  unfold mapOf
  rcases hf : ns.find? (fun n => decide (n.1 = old)) with _ | m
  · have := List.find?_eq_none.1 hf n (List.mem_of_getElem? hi)
    simp at this
    exact absurd he this
  · have h1 := List.find?_some hf
    simp only [decide_eq_true_eq] at h1
    obtain ⟨j, hj⟩ := List.getElem?_of_mem (List.mem_of_find?_eq_some hf)
    have := srt_one h hj hi (h1.trans he.symm)
    subst this
    rw [hi] at hj
    cases hj
    rw [hf]
    rfl
def ltB (name : List UInt8) (n : Nm) : Bool := decide (n.1 < name)
theorem ltB_yes {name : List UInt8} {n : Nm} : ltB name n = true ↔ ltS n.1 name := by unfold ltB ltS; simp
def posOf (ns : List Nm) (name : List UInt8) : Nat := (ns.takeWhile (ltB name)).length
theorem tw_stop {α : Type} (p : α → Bool) : ∀ (l : List α) (y : α), l[(l.takeWhile p).length]? = some y → p y = false
  | [], y, h => by simp at h
  | a :: l, y, h => by
    rw [List.takeWhile_cons] at h
    by_cases hp : p a = true
    · rw [if_pos hp, List.length_cons, List.getElem?_cons_succ] at h
      exact tw_stop p l y h
    · rw [if_neg hp] at h
      simp at h
      subst h
      simpa using hp
theorem tw_at {α : Type} (p : α → Bool) : ∀ (l : List α) (j : Nat) (y : α), j < (l.takeWhile p).length → l[j]? = some y → p y = true
  | [], j, y, h, _ => by simp at h
  | a :: l, j, y, h, hy => by
    rw [List.takeWhile_cons] at h
    by_cases hp : p a = true
    · rw [if_pos hp] at h
      cases j with
      | zero => simp at hy; subst hy; exact hp
      | succ j => exact tw_at p l j y (by simpa using h) (by simpa using hy)
    · rw [if_neg hp] at h
      simp at h
theorem tw_le {α : Type} (p : α → Bool) : ∀ (l : List α), (l.takeWhile p).length ≤ l.length
  | [] => by simp
  | a :: l => by
    rw [List.takeWhile_cons]
    split
    · have := tw_le p l; simp; omega
    · simp
theorem posOf_le (ns : List Nm) (name : List UInt8) : posOf ns name ≤ ns.length := tw_le _ _
theorem posOf_lt {ns : List Nm} {name : List UInt8} : ∀ j m, j < posOf ns name → ns[j]? = some m → ltS m.1 name := fun j m hj hm => ltB_yes.1 (tw_at _ _ j m hj hm)
theorem posOf_ge {ns : List Nm} {name : List UInt8} (h : SrtE ns) : ∀ j m, posOf ns name ≤ j → ns[j]? = some m → ¬ ltS m.1 name := by
  intro j m hj hm hl
  have hp : posOf ns name < ns.length := by have := (List.getElem?_eq_some_iff.1 hm).1; omega
  have h1 := tw_stop (ltB name) ns _ (List.getElem?_eq_getElem hp)
  have h2 : ¬ ltS (ns[posOf ns name]).1 name := fun hh => by rw [ltB_yes.2 hh] at h1; simp at h1
  rcases Nat.lt_or_eq_of_le hj with h3 | h3
  · exact h2 (ltS_trans (h _ j _ m h3 (List.getElem?_eq_getElem hp) hm) hl)
  · subst h3
    rw [List.getElem?_eq_getElem hp] at hm
    cases hm
    exact h2 hl
theorem posOf_eq {ns : List Nm} {name : List UInt8} {i : Nat} (hs : SrtE ns) (hi : i ≤ ns.length) (h1 : ∀ j m, j < i → ns[j]? = some m → ltS m.1 name) (h2 : ∀ j m, i ≤ j → ns[j]? = some m → ¬ ltS m.1 name) : posOf ns name = i := by
  have hle := posOf_le ns name
  rcases Nat.lt_trichotomy (posOf ns name) i with h | h | h
  · have hp : posOf ns name < ns.length := by omega
    exact absurd (h1 _ _ h (List.getElem?_eq_getElem hp)) (posOf_ge hs _ _ (Nat.le_refl _) (List.getElem?_eq_getElem hp))
  · exact h
  · have hp : i < ns.length := by omega
    exact absurd (posOf_lt i _ h (List.getElem?_eq_getElem hp)) (h2 i _ (Nat.le_refl _) (List.getElem?_eq_getElem hp))

theorem SrtE.erase {ns : List Nm} (h : SrtE ns) (i : Nat) : SrtE (ns.eraseIdx i) := by
  intro j k a b hjk ha hb
  rw [List.getElem?_eraseIdx] at ha hb
  by_cases h1 : j < i
  · rw [if_pos h1] at ha
    by_cases h2 : k < i
    · rw [if_pos h2] at hb; exact h j k a b hjk ha hb
    · rw [if_neg h2] at hb; exact h j (k + 1) a b (by omega) ha hb
  · rw [if_neg h1] at ha
    rw [if_neg (by omega)] at hb
    exact h (j + 1) (k + 1) a b (by omega) ha hb
theorem SrtE.ins {L : List Nm} {i : Nat} {x : Nm} (h : SrtE L) (hi : i ≤ L.length) (hno : ∀ n ∈ L, n.1 ≠ x.1) (h1 : ∀ j m, j < i → L[j]? = some m → ltS m.1 x.1) (h2 : ∀ j m, i ≤ j → L[j]? = some m → ¬ ltS m.1 x.1) : SrtE (insL L i x) := by
  intro j k a b hjk ha hb
  rw [insL_at x hi] at ha hb
  have hg : ∀ j m, i ≤ j → L[j]? = some m → ltS x.1 m.1 := fun j m hj hm => ltS_tri (h2 j m hj hm) (hno m (List.mem_of_getElem? hm))
  by_cases c1 : j < i
  · rw [if_pos c1] at ha
    by_cases c2 : k < i
    · rw [if_pos c2] at hb; exact h j k a b hjk ha hb
    · rw [if_neg c2] at hb
      by_cases c3 : k = i
      · rw [if_pos c3] at hb; cases hb; exact h1 j a c1 ha
      · rw [if_neg c3] at hb; exact h j (k - 1) a b (by omega) ha hb
  · rw [if_neg c1] at ha
    rw [if_neg (by omega), if_neg (by omega)] at hb
    by_cases c2 : j = i
    · rw [if_pos c2] at ha; cases ha; exact hg (k - 1) b (by omega) hb
    · rw [if_neg c2] at ha; exact h (j - 1) (k - 1) a b (by omega) ha hb
theorem env_of {ns : List Nm} (hl : ns.length ≤ 8) (h : ∀ n ∈ ns, nameB n.1 = true ∧ okMap n.2 = true) (hs : SrtE ns) : envB ns = true := by
  rw [envB_all (fun j hj => ?_)]
  · simpa using hl
  · have hx := List.getElem?_eq_getElem hj
    obtain ⟨a, b⟩ := h _ (List.getElem_mem hj)
    cases j with
    | zero => rw [okE_zero hx, a, b]; rfl
    | succ j =>
      have hy := List.getElem?_eq_getElem (show j < ns.length by omega)
      rw [okE_succ hx hy, a, b, geS_no.2 (hs j (j + 1) _ _ (by omega) hy hx)]
      rfl

def renB (ns : List Nm) (old name : List UInt8) : Bool := fgtB ns old && ((woQ ns old).all (fun n => decide (n.1 ≠ name)) && nameB name)
def renL (ns : List Nm) (old name : List UInt8) : List Nm := insL (woQ ns old) (posOf (woQ ns old) name) (name, mapOf ns old)
def renQ (ns : List Nm) (old name : List UInt8) : List Nm × Bool := if renB ns old name = true then (renL ns old name, true) else ([], false)
theorem renQ_no {ns m : List Nm} {old name : List UInt8} {t : Bool} (h : renQ ns old name = (m, t)) (hb : renB ns old name = false) : [] = m ∧ false = t := by
  unfold renQ at h
  rw [if_neg (by rw [hb]; simp)] at h
  exact Prod.mk.inj h
theorem renQ_yes {ns m : List Nm} {old name : List UInt8} {t : Bool} (h : renQ ns old name = (m, t)) (hb : renB ns old name = true) : renL ns old name = m ∧ true = t := by
  unfold renQ at h
  rw [if_pos hb] at h
  exact Prod.mk.inj h
theorem renB_known {ns : List Nm} {old name : List UInt8} {n : Nm} (h : n ∈ woQ ns old) (he : n.1 = name) : renB ns old name = false := by
  unfold renB
  have : (woQ ns old).all (fun n => decide (n.1 ≠ name)) = false := by
    rw [List.all_eq_false]
    exact ⟨n, h, by simpa using he⟩
  rw [this]; simp
theorem renB_word {ns : List Nm} {old name : List UInt8} (h : nameB name = false) : renB ns old name = false := by unfold renB; rw [h]; simp
theorem renB_fgt {ns : List Nm} {old name : List UInt8} (h : fgtB ns old = false) : renB ns old name = false := by unfold renB; rw [h]; simp
theorem renB_all {ns : List Nm} {old name : List UInt8} (h : fgtB ns old = true) (hno : ∀ n ∈ woQ ns old, n.1 ≠ name) (hw : nameB name = true) : renB ns old name = true := by
  unfold renB
  rw [h, hw]
  have : (woQ ns old).all (fun n => decide (n.1 ≠ name)) = true := by
    rw [List.all_eq_true]
    intro n hn
    simpa using hno n hn
  rw [this]; rfl
theorem wo_mem {ns : List Nm} {old : List UInt8} {n : Nm} (h : n ∈ woQ ns old) : n ∈ ns ∧ n.1 ≠ old := by
  unfold woQ at h
  have := List.mem_filter.1 h
  exact ⟨this.1, by simpa using this.2⟩
theorem mem_wo {ns : List Nm} {old : List UInt8} {n : Nm} (h : n ∈ ns) (hn : n.1 ≠ old) : n ∈ woQ ns old := by
  unfold woQ
  exact List.mem_filter.2 ⟨h, by simpa using hn⟩
theorem mapOf_len {ns : List Nm} {old : List UInt8} (hm : ∀ n ∈ ns, n.2.length ≤ 1048576) : (mapOf ns old).length ≤ 1048576 := by
  unfold mapOf
  rcases hf : ns.find? (fun n => decide (n.1 = old)) with _ | m
  · rw [hf]; simp
  · rw [hf]; exact hm m (List.mem_of_find?_eq_some hf)
theorem renL_maps {ns : List Nm} {old name : List UInt8} (hm : ∀ n ∈ ns, n.2.length ≤ 1048576) : ∀ n ∈ renL ns old name, n.2.length ≤ 1048576 := by
  intro n hn
  rcases insL_mem hn with rfl | h
  · exact mapOf_len hm
  · exact hm n (wo_mem h).1
theorem renL_names {ns : List Nm} {old name : List UInt8} (hm : NmL ns) (hl : name.length ≤ 1048576) : NmL (renL ns old name) := by
  intro n hn
  rcases insL_mem hn with rfl | h
  · exact Nat.le_trans hl (by omega)
  · exact hm n (wo_mem h).1
theorem renL_env {ns : List Nm} {old name : List UInt8} (hen : envB ns = true) {i : Nat} {n : Nm} (hi : ns[i]? = some n) (he : n.1 = old) (hno : ∀ n ∈ woQ ns old, n.1 ≠ name) : (renL ns old name).length ≤ 8 ∧ envB (renL ns old name) = nameB name := by
  have hs := env_srt hen
  have hwo := wo_erase hs hi he
  have hil := (List.getElem?_eq_some_iff.1 hi).1
  have h8 := (envB_yes hen).1
  have hlen : (renL ns old name).length ≤ 8 := by
    unfold renL
    rw [insL_len _ _ _ (posOf_le _ _), hwo, List.length_eraseIdx, if_pos hil]; omega
  have hsw : SrtE (woQ ns old) := by rw [hwo]; exact hs.erase i
  refine ⟨hlen, ?_⟩
  rcases hN : nameB name with _ | _
  · rcases hE : envB (renL ns old name) with _ | _
    · rfl
    · have := ((envB_yes hE).2 (name, mapOf ns old) (by unfold renL insL; simp)).1
      rw [hN] at this
      exact absurd this (by simp)
  · refine env_of hlen (fun x hx => ?_) (hsw.ins (posOf_le _ _) hno posOf_lt (posOf_ge hsw))
    rcases insL_mem hx with rfl | h
    · exact ⟨hN, by show okMap (mapOf ns old) = true; rw [mapOf_eq hs hi he]; exact ((envB_yes hen).2 n (List.mem_of_getElem? hi)).2⟩
    · exact (envB_yes hen).2 x (wo_mem h).1
theorem renQ_len {ns m : List Nm} {old name : List UInt8} {t : Bool} (h : renQ ns old name = (m, t)) : m.length ≤ 8 := by
  rcases hb : renB ns old name with _ | _
  · obtain ⟨rfl, -⟩ := renQ_no h hb
    simp
  · obtain ⟨rfl, -⟩ := renQ_yes h hb
    unfold renB fgtB at hb
    simp only [Bool.and_eq_true] at hb
    obtain ⟨n, hn, he⟩ := any_name.1 hb.1.2
    obtain ⟨i, hi⟩ := List.getElem?_of_mem hn
    refine (renL_env hb.1.1 hi he (fun m hm => ?_)).1
    have := List.all_eq_true.1 hb.2.1 m hm
    simpa using this
theorem renQ_maps {ns m : List Nm} {old name : List UInt8} {t : Bool} (h : renQ ns old name = (m, t)) (hm : ∀ n ∈ ns, n.2.length ≤ 1048576) : ∀ n ∈ m, n.2.length ≤ 1048576 := by
  rcases hb : renB ns old name with _ | _
  · obtain ⟨rfl, -⟩ := renQ_no h hb
    intro n hn
    simp at hn
  · obtain ⟨rfl, -⟩ := renQ_yes h hb
    exact renL_maps hm

theorem RdE.nil (w : World) : RdE w (.slice none 0 0) [] := ⟨none, 0, rfl, Nat.le_refl _, Nat.zero_le _, fun h => absurd rfl h⟩
theorem erase_sep {base : Nat} {w : World} {ns : List Nm} {ms : List Value} {i : Nat} {f : Value} (h : OwM base w ns ms) (hf : ms[i]? = some f) : ∀ m ∈ ms.eraseIdx i, Sep m f := by
  intro m hm
  obtain ⟨j, hj⟩ := List.getElem?_of_mem hm
  rw [List.getElem?_eraseIdx] at hj
  by_cases h1 : j < i
  · rw [if_pos h1] at hj; exact h.2.2 j i m f h1 hj hf
  · rw [if_neg h1] at hj; exact (h.2.2 i (j + 1) f m (by omega) hf hj).symm
theorem own_ins {base g cap p : Nat} {w w' : World} {L : List Nm} {M : List Value} {x : Nm} {f : Value} (hr : w'.ownsRow base 89 2 (.slice (some ⟨g, 0, none⟩) (L.length + 1) cap) (L.length + 1) (rowN (insL L p x) (insL M p f)))
    (hM : OwM base w L M) (hf : OwP base 74 w f x.2) (hs : ∀ m ∈ M, Sep m f) (hb : But g w w') (hap : ∀ m ∈ M, m.ownBlock ≠ some g) (hfg : f.ownBlock ≠ some g) (hp : p ≤ L.length) : OwN base w' (.slice (some ⟨g, 0, none⟩) (L.length + 1) cap) (insL L p x) := by
  refine ⟨insL M p f, ?_, (hM.but hb hap).ins (hf.keepU hb hfg) hs hp⟩
  rw [insL_len _ _ _ hp]
  exact hr

end Go.Proofs.YtmabngjmfjjogaaDoor
