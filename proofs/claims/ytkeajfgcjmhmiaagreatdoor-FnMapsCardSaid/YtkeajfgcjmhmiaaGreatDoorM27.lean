/- Plain: what a text of a fraction is read back to. -/
import Derived.Test.YtkeajfgcjmhmiaaGreatDoorM24
import Derived.Lib.Atoi
import Derived.Lib.AtoiAllCases
import Derived.Lib.CutLaws
namespace Go.Proofs.YtkeajfgcjmhmiaaGreatDoor
open Go.RowKit

theorem str_size (l : List UInt8) : (⟨l.toArray⟩ : ByteArray).size = l.length := by simp [ByteArray.size]
theorem str_data (l : List UInt8) : (⟨l.toArray⟩ : ByteArray).data.toList = l := rfl
theorem isDigit_dec (u : Nat) : ∀ b ∈ Lib.decDigits u, 48 ≤ b.toNat ∧ b.toNat ≤ 57 := by
  induction u using Nat.strongRecOn with
  | _ u ih =>
    intro b hb
    rw [Lib.decDigits] at hb
    split at hb
    · simp at hb; subst hb; simp; omega
    · rw [List.mem_append] at hb
      rcases hb with hb | hb
      · exact ih _ (by omega) b hb
      · simp at hb; subst hb; simp; omega
theorem parseUint10_snoc (x : UInt8) (hx : 48 ≤ x.toNat ∧ x.toNat ≤ 57) : ∀ (l : List UInt8) (acc a : Nat), Lib.parseUint10 acc l = .ok a → a < 1000000000000000000 → Lib.parseUint10 acc (l ++ [x]) = .ok (a * 10 + (x.toNat - 48)) := by
  intro l
  induction l with
  | nil =>
    intro acc a h ha
    simp [Lib.parseUint10] at h
    subst h
    simp only [List.nil_append, Lib.parseUint10]
    rw [if_pos hx, if_neg (by omega), if_neg (by omega)]
  | cons c r ih =>
    intro acc a h ha
    simp only [List.cons_append, Lib.parseUint10] at h ⊢
    split at h
    · rename_i hc
      rw [if_pos hc]
      split at h
      · cases h
      · rename_i h1
        rw [if_neg h1]
        split at h
        · cases h
        · rename_i h2
          rw [if_neg h2]
          exact ih _ _ h ha
    · cases h
theorem parse_dec (u : Nat) (h : u ≤ 1000000000000000000) : Lib.parseUint10 0 (Lib.decDigits u) = .ok u := by
  induction u using Nat.strongRecOn with
  | _ u ih =>
    rw [Lib.decDigits]
    split
    · rename_i hu
      have e : (UInt8.ofNat (48 + u)).toNat = 48 + u := by simp; omega
      simp only [Lib.parseUint10, e]
      rw [if_pos (by omega), if_neg (by omega), if_neg (by omega)]
      simp
    · rename_i hu
      have e : (UInt8.ofNat (48 + u % 10)).toNat = 48 + u % 10 := by simp; omega
      have := parseUint10_snoc (UInt8.ofNat (48 + u % 10)) (by rw [e]; omega) _ _ _ (ih (u / 10) (by omega) (by omega)) (by omega)
      rw [this, e]
      congr 1
      omega
theorem dec_ne_nil (u : Nat) : Lib.decDigits u ≠ [] := by
  intro h
  have := Lib.decDigits_length u
  rw [h] at this
  have h1 := Lib.nDigits_pos u
  simp at this
  omega
theorem atoi_itoa (n : Int) (h0 : -1000000000000000000 ≤ n) (h1 : n ≤ 1000000000000000000) : Lib.atoiAll (Lib.itoa n) = .ok n := by
  by_cases h : n < 0
  · have e : Lib.itoa n = 45 :: Lib.decDigits n.natAbs := by unfold Lib.itoa; rw [if_pos h]
    rw [e, Lib.atoiAll_minus]
    unfold Lib.parseMag
    rw [if_neg (dec_ne_nil _), parse_dec _ (by omega)]
    simp only [Lib.signed]
    rw [if_neg (by omega)]
    congr 1
    omega
  · have e : Lib.itoa n = Lib.decDigits n.toNat := by unfold Lib.itoa; rw [if_neg h]
    rw [e]
    have hne := dec_ne_nil n.toNat
    have hp := parse_dec n.toNat (by omega)
    have hd := isDigit_dec n.toNat
    revert hne hp hd
    generalize Lib.decDigits n.toNat = l
    intro hne hp hd
    cases l with
    | nil => exact absurd rfl hne
    | cons c r =>
      have hc := hd c (by simp)
      rw [Lib.atoiAll_plain c r (by omega) (by omega)]
      unfold Lib.parseMag
      rw [if_neg hne, hp]
      simp only [Lib.signless]
      rw [if_neg (by omega)]
      congr 1
      omega

/-- A text cut at each occurrence of a byte. -/
def spL (c : UInt8) : List UInt8 → List (List UInt8)
  | [] => [[]]
  | x :: r => if x = c then [] :: spL c r else match spL c r with
    | [] => [[x]]
    | h :: t => (x :: h) :: t
theorem spL_one {c : UInt8} : ∀ {a : List UInt8}, c ∉ a → spL c a = [a]
  | [], _ => rfl
  | x :: r, h => by
    simp only [List.mem_cons, not_or] at h
    unfold spL
    rw [if_neg (fun e => h.1 e.symm), spL_one h.2]
theorem spL_app {c : UInt8} {b : List UInt8} : ∀ {a : List UInt8}, c ∉ a → spL c (a ++ c :: b) = a :: spL c b
  | [], _ => by simp [spL]
  | x :: r, h => by
    simp only [List.mem_cons, not_or] at h
    rw [List.cons_append, spL, if_neg (fun e => h.1 e.symm), spL_app h.2]
theorem itoa_no {n : Int} {c : UInt8} (hc : c.toNat < 48 ∨ 57 < c.toNat) (h45 : c ≠ 45) : c ∉ Lib.itoa n := by
  intro h
  unfold Lib.itoa at h
  split at h
  · rcases List.mem_cons.1 h with h | h
    · exact h45 h
    · have := isDigit_dec _ _ h; omega
  · have := isDigit_dec _ _ h; omega
theorem no47 (n : Int) : (47 : UInt8) ∉ Lib.itoa n := itoa_no (by decide) (by decide)
theorem spL_rat (n d : Int) : spL 47 (ratL n d) = [Lib.itoa n, Lib.itoa d] := by
  unfold ratL
  rw [List.append_assoc, List.singleton_append, spL_app (no47 n), spL_one (no47 d)]
theorem itoa_inj {n m : Int} (hn : -1000000000000000000 ≤ n ∧ n ≤ 1000000000000000000) (hm : -1000000000000000000 ≤ m ∧ m ≤ 1000000000000000000) (h : Lib.itoa n = Lib.itoa m) : n = m := by
  have h1 := atoi_itoa n hn.1 hn.2
  rw [h, atoi_itoa m hm.1 hm.2] at h1
  injection h1 with h1
  exact h1.symm
theorem ratL_inj {n d m e : Int} (h1 : okQ n d = true) (h2 : okQ m e = true) (h : ratL n d = ratL m e) : n = m ∧ d = e := by
  have b1 := okQ_bd h1
  have b2 := okQ_bd h2
  have := spL_rat n d
  rw [h, spL_rat] at this
  injection this with x y
  injection y with y _
  exact ⟨(itoa_inj (by omega) (by omega) x).symm, (itoa_inj (by omega) (by omega) y).symm⟩

/-- s is the text of the fraction n / d. -/
def Parses (s : List UInt8) (q : Q) : Prop := okQ q.1 q.2 = true ∧ ratL q.1 q.2 = s
open Classical in
noncomputable def psQ (s : List UInt8) : Q × Bool := if h : ∃ q, Parses s q then (h.choose, true) else ((0, 0), false)
theorem psQ_yes {s : List UInt8} {q : Q} (h : Parses s q) : psQ s = (q, true) := by
  have hx : ∃ q, Parses s q := ⟨q, h⟩
  unfold psQ
  rw [dif_pos hx]
  have h2 := hx.choose_spec
  have := ratL_inj h2.1 h.1 (h2.2.trans h.2.symm)
  exact Prod.ext (Prod.ext this.1 this.2) rfl
theorem psQ_no {s : List UInt8} (h : ∀ q, ¬ Parses s q) : psQ s = ((0, 0), false) := by
  unfold psQ
  rw [dif_neg (fun hx => h hx.choose hx.choose_spec)]
theorem psQ_cases {s : List UInt8} {n d : Int} {t : Bool} (h : psQ s = ((n, d), t)) : (t = true ∧ okQ n d = true ∧ s = ratL n d) ∨ (t = false ∧ n = 0 ∧ d = 0 ∧ ∀ a b, okQ a b = true → s ≠ ratL a b) := by
  by_cases hx : ∃ q, Parses s q
  · obtain ⟨q, hq⟩ := hx
    rw [psQ_yes hq] at h
    cases h
    exact .inl ⟨rfl, hq.1, hq.2.symm⟩
  · rw [psQ_no (fun q hq => hx ⟨q, hq⟩)] at h
    cases h
    exact .inr ⟨rfl, rfl, rfl, fun a b ho he => hx ⟨(a, b), ho, he.symm⟩⟩

theorem index_sep {c : UInt8} {b : List UInt8} : ∀ {a : List UInt8}, c ∉ a → Lib.index (a ++ c :: b) [c] = a.length
  | [], _ => by simp [Lib.index, List.isPrefixOf]
  | x :: r, h => by
    simp only [List.mem_cons, not_or] at h
    have hi := index_sep (b := b) h.2
    rw [List.cons_append, Lib.index]
    have hx : List.isPrefixOf [c] (x :: (r ++ c :: b)) = false := by simp [List.isPrefixOf]; exact h.1
    rw [hx, hi]
    simp
    try (intro hh; omega)
theorem cut_sep {c : UInt8} {a b : List UInt8} (h : c ∉ a) : Lib.cut (a ++ c :: b) [c] = (a, b, true) := by
  unfold Lib.cut
  rw [index_sep h, if_pos (by omega)]
  simp
theorem cut_rat (n d : Int) : Lib.cut (ratL n d) [47] = (Lib.itoa n, Lib.itoa d, true) := by
  unfold ratL
  rw [List.append_assoc, List.singleton_append]
  exact cut_sep (no47 n)

/-- What raRead gives. -/
def rdL (l : List UInt8) : Int := if 1 ≤ l.length ∧ l.length ≤ 10 ∧ ¬ (l[0]? = some 48 ∧ 1 < l.length) then (match Lib.decFrom 0 l with | some m => (m : Int) | none => -1) else -1
theorem rdL_bd (l : List UInt8) : -1 ≤ rdL l ∧ rdL l ≤ 10000000000 := by
  unfold rdL
  split
  · rename_i h
    cases hd : Lib.decFrom 0 l with
    | none => simp
    | some m =>
      have h1 := Lib.decFrom_lt l 0 m hd
      have h2 : 10 ^ l.length ≤ 10 ^ 10 := Nat.pow_le_pow_right (by decide) h.2.1
      simp only []
      omega
  · omega
theorem decFrom_snoc (x : UInt8) (hx : 48 ≤ x.toNat ∧ x.toNat ≤ 57) : ∀ (l : List UInt8) (acc a : Nat), Lib.decFrom acc l = some a → Lib.decFrom acc (l ++ [x]) = some (a * 10 + (x.toNat - 48)) := by
  intro l
  induction l with
  | nil => intro acc a h; simp [Lib.decFrom] at h; subst h; simp [Lib.decFrom, Lib.digitVal, hx]
  | cons c r ih =>
    intro acc a h
    simp only [List.cons_append, Lib.decFrom] at h ⊢
    cases hc : Lib.digitVal c with
    | none => simp [hc] at h
    | some e => simp only [hc] at h ⊢; exact ih _ _ h
theorem decFrom_dec (u : Nat) : Lib.decFrom 0 (Lib.decDigits u) = some u := by
  induction u using Nat.strongRecOn with
  | _ u ih =>
    rw [Lib.decDigits]
    split
    · rename_i hu
      have e : (UInt8.ofNat (48 + u)).toNat = 48 + u := by simp; omega
      simp only [Lib.decFrom, Lib.digitVal, e]
      rw [if_pos (by omega)]
      simp only []
      congr 1
      omega
    · rename_i hu
      have e : (UInt8.ofNat (48 + u % 10)).toNat = 48 + u % 10 := by simp; omega
      have := decFrom_snoc (UInt8.ofNat (48 + u % 10)) (by rw [e]; omega) _ _ _ (ih (u / 10) (by omega))
      rw [this, e]
      congr 1
      omega
theorem head_dec (u : Nat) (h : (Lib.decDigits u)[0]? = some 48) : u = 0 := by
  induction u using Nat.strongRecOn with
  | _ u ih =>
    rw [Lib.decDigits] at h
    split at h
    · rename_i hu
      have e : (UInt8.ofNat (48 + u)).toNat = 48 + u := by simp; omega
      simp only [List.getElem?_cons_zero, Option.some.injEq] at h
      rw [h] at e
      simp at e
      omega
    · rename_i hu
      rw [List.getElem?_append_left (by have := Lib.decDigits_length (u / 10); have := Lib.nDigits_pos (u / 10); omega)] at h
      have := ih (u / 10) (by omega) h
      omega
theorem nDig_le : ∀ (k u : Nat), 1 ≤ k → u < 10 ^ k → Lib.nDigits u ≤ k
  | 0, _, h, _ => by omega
  | 1, u, _, h => by rw [Lib.nDigits_small (by simpa using h)]; exact Nat.le_refl _
  | k + 2, u, _, h => by
    by_cases hu : u < 10
    · rw [Lib.nDigits_small hu]; omega
    · rw [Lib.nDigits_big hu]
      have := nDig_le (k + 1) (u / 10) (by omega) (by rw [Nat.pow_succ] at h; omega)
      omega
theorem dec_len10 (u : Nat) (h : u ≤ 1000000000) : (Lib.decDigits u).length ≤ 10 := by
  rw [Lib.decDigits_length]
  exact nDig_le 10 u (by omega) (by omega)
theorem rdL_dec (u : Nat) (h : u ≤ 1000000000) : rdL (Lib.decDigits u) = u := by
  unfold rdL
  have h1 := Lib.nDigits_pos u
  have h2 := Lib.decDigits_length u
  have h3 : Lib.nDigits u ≤ 10 := by
    rw [← h2]
    exact dec_len10 u h
  rw [if_pos, decFrom_dec]
  refine ⟨by omega, by omega, ?_⟩
  rintro ⟨h4, h5⟩
  have := head_dec u h4
  subst this
  simp [Lib.decDigits] at h5
theorem ratL_len22 {n d : Int} (h : okQ n d = true) : (ratL n d).length ≤ 22 := by
  have b := okQ_bd h
  have e2 : Lib.itoa d = Lib.decDigits d.toNat := by unfold Lib.itoa; rw [if_neg (by omega)]
  have l2 := dec_len10 d.toNat (by omega)
  have l1 : (Lib.itoa n).length ≤ 11 := by
    unfold Lib.itoa
    split
    · have := dec_len10 n.natAbs (by omega); simp only [List.length_cons]; omega
    · have := dec_len10 n.toNat (by omega); omega
  unfold ratL
  rw [e2]
  simp only [List.length_append, List.length_singleton]
  omega

end Go.Proofs.YtkeajfgcjmhmiaaGreatDoor
