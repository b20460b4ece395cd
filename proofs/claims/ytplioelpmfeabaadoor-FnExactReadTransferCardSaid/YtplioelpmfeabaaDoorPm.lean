/- Plain functions: products, quotients of series, filters, without any program. -/
import Derived.Test.YtplioelpmfeabaaDoorPs
namespace Go.Proofs.YtplioelpmfeabaaDoor
open Go.RowKit
set_option linter.unusedVariables false
set_option linter.unusedSimpArgs false

/-- k steps into row i of a product: x times g is added from i on. -/
def rowN (x : Int) (g : Nat → Int) (i : Nat) (F : Nat → Int) : Nat → (Nat → Int)
  | 0 => F
  | k + 1 => upd (rowN x g i F k) (i + k) (wrap32 (rowN x g i F k (i + k) + x * g k))
theorem rowN_behind {x : Int} {g : Nat → Int} {i : Nat} {F : Nat → Int} : ∀ {k m : Nat}, i + k ≤ m → rowN x g i F k m = F m
  | 0, _, _ => rfl
  | k + 1, m, h => by
    unfold rowN
    rw [upd_far _ _ (by omega)]
    exact rowN_behind (by omega)
theorem upd_in {F : Nat → Int} {j : Nat} {v : Int} (h : ∀ m, -2147483648 ≤ F m ∧ F m ≤ 2147483647) (hv : -2147483648 ≤ v ∧ v ≤ 2147483647) : ∀ m, -2147483648 ≤ upd F j v m ∧ upd F j v m ≤ 2147483647 := by
  intro m
  unfold upd
  split
  · exact hv
  · exact h m
theorem rowN_in {x : Int} {g : Nat → Int} {i : Nat} {F : Nat → Int} (h : ∀ m, -2147483648 ≤ F m ∧ F m ≤ 2147483647) : ∀ k m, -2147483648 ≤ rowN x g i F k m ∧ rowN x g i F k m ≤ 2147483647
  | 0 => h
  | k + 1 => upd_in (rowN_in h k) ⟨wrap32_lo _, wrap32_hi _⟩
/-- i rows of a product. -/
def rowsN (f g : Nat → Int) (lb : Nat) : Nat → (Nat → Int)
  | 0 => fun _ => 0
  | i + 1 => rowN (f i) g i (rowsN f g lb i) lb
theorem rowsN_behind {f g : Nat → Int} {lb : Nat} : ∀ {i m : Nat}, i + lb ≤ m + 1 → rowsN f g lb i m = 0
  | 0, _, _ => rfl
  | i + 1, m, h => by
    unfold rowsN
    rw [rowN_behind (by omega)]
    exact rowsN_behind (by omega)
theorem rowsN_none {f g : Nat → Int} : ∀ i m, rowsN f g 0 i m = 0
  | 0, _ => rfl
  | i + 1, m => by unfold rowsN rowN; exact rowsN_none i m
theorem rowsN_in {f g : Nat → Int} {lb : Nat} : ∀ i m, -2147483648 ≤ rowsN f g lb i m ∧ rowsN f g lb i m ≤ 2147483647
  | 0, _ => ⟨by simp [rowsN], by simp [rowsN]⟩
  | i + 1, m => rowN_in (rowsN_in i) lb m
/-- The product of two lists of coefficients. -/
def mulL (xs ys : List Int) : List Int := trimL (tab (xs.length + ys.length) (rowsN (fun k => xs.getD k 0) (fun k => ys.getD k 0) ys.length xs.length))
theorem trimL_tab {n m : Nat} {F : Nat → Int} (h : ∀ k, n ≤ k → F k = 0) (h' : ∀ k, m ≤ k → F k = 0) : trimL (tab n F) = trimL (tab m F) := by
  apply trimL_congr
  intro k
  have key : ∀ {n : Nat}, (∀ k, n ≤ k → F k = 0) → (tab n F).getD k 0 = F k := by
    intro n h
    rcases Nat.lt_or_ge k n with hk | hk
    · exact tab_getD hk
    · rw [tab_behind hk, h k hk]
  rw [key h, key h']
theorem mulL_spec {xs ys : List Int} : trimL (tab (xs.length + ys.length - 1) (rowsN (fun k => xs.getD k 0) (fun k => ys.getD k 0) ys.length xs.length)) = mulL xs ys :=
  trimL_tab (fun k hk => rowsN_behind (by omega)) (fun k hk => rowsN_behind (by omega))
theorem trimL_zero {xs : List Int} (h : ∀ k, xs.getD k 0 = 0) : trimL xs = [0] := by
  have h0 : trimL [(0 : Int)] = [0] := rfl
  rw [← h0]
  apply trimL_congr
  intro k
  rw [h k]
  rcases k with _ | k <;> rfl
theorem mulL_none {xs ys : List Int} (h : xs.length = 0 ∨ ys.length = 0) : mulL xs ys = [0] := by
  apply trimL_zero
  intro k
  rcases Nat.lt_or_ge k (xs.length + ys.length) with hk | hk
  · rw [tab_getD hk]
    rcases h with h | h
    · rw [h]; rfl
    · rw [h]; exact rowsN_none _ _
  · exact tab_behind hk
theorem mulL_length (xs ys : List Int) : (mulL xs ys).length ≤ max 1 (xs.length + ys.length) := by
  have := trimL_le (tab (xs.length + ys.length) (rowsN (fun k => xs.getD k 0) (fun k => ys.getD k 0) ys.length xs.length))
  rw [tab_length] at this
  exact this
theorem mulL_pos (xs ys : List Int) : 1 ≤ (mulL xs ys).length := by
  unfold mulL
  rw [trimL_length]; omega
theorem mulL_in (xs ys : List Int) : ∀ x ∈ mulL xs ys, -2147483648 ≤ x ∧ x ≤ 2147483647 :=
  trimL_all (p := fun x => -2147483648 ≤ x ∧ x ≤ 2147483647) ⟨by omega, by omega⟩ (tab_all fun k _ => rowsN_in _ _)

/-- k steps into a coefficient of a quotient of series. -/
def qIn (b : Nat → Int) (out : List Int) (i : Nat) (x : Int) : Nat → Int
  | 0 => x
  | k + 1 => wrap32 (qIn b out i x k - b (k + 1) * out.getD (i - (k + 1)) 0)
theorem qIn_in {b : Nat → Int} {out : List Int} {i : Nat} {x : Int} (h : -2147483648 ≤ x ∧ x ≤ 2147483647) : ∀ k, -2147483648 ≤ qIn b out i x k ∧ qIn b out i x k ≤ 2147483647
  | 0 => h
  | _ + 1 => ⟨wrap32_lo _, wrap32_hi _⟩
/-- The first coefficients of a quotient of series. -/
def qL (a b : Nat → Int) (lb : Nat) (inv : Int) : Nat → List Int
  | 0 => []
  | i + 1 => qL a b lb inv i ++ [wrap32 (qIn b (qL a b lb inv i) i (a i) (min i (lb - 1)) * inv)]
theorem qL_length (a b : Nat → Int) (lb : Nat) (inv : Int) : ∀ i, (qL a b lb inv i).length = i
  | 0 => rfl
  | i + 1 => by unfold qL; rw [List.length_append, qL_length a b lb inv i]; rfl
theorem qL_in (a b : Nat → Int) (lb : Nat) (inv : Int) : ∀ i, ∀ x ∈ qL a b lb inv i, -2147483648 ≤ x ∧ x ≤ 2147483647
  | 0 => fun x hx => by simp [qL] at hx
  | i + 1 => fun x hx => by
    unfold qL at hx
    rw [List.mem_append] at hx
    rcases hx with hx | hx
    · exact qL_in a b lb inv i x hx
    · simp at hx; subst hx; exact ⟨wrap32_lo _, wrap32_hi _⟩
theorem getD_in {xs : List Int} (h : ∀ x ∈ xs, -2147483648 ≤ x ∧ x ≤ 2147483647) (k : Nat) : -2147483648 ≤ xs.getD k 0 ∧ xs.getD k 0 ≤ 2147483647 := by
  rcases Nat.lt_or_ge k xs.length with hk | hk
  · have := h xs[k] (List.getElem_mem hk)
    simpa [List.getD_eq_getElem?_getD, hk] using this
  · rw [getD_behind hk]; exact ⟨by omega, by omega⟩
/-- A list of n numbers of which the first i are told. -/
def fill (xs : List Int) (n : Nat) : List Int := xs ++ List.replicate (n - xs.length) 0
theorem fill_length {xs : List Int} {n : Nat} (h : xs.length ≤ n) : (fill xs n).length = n := by simp [fill]; omega
theorem fill_getD {xs : List Int} {n k : Nat} (h : k < xs.length) : (fill xs n).getD k 0 = xs.getD k 0 := by simp [fill, List.getD_eq_getElem?_getD, List.getElem?_append, h]
theorem fill_set {xs : List Int} {n i : Nat} {v : Int} (hi : xs.length = i) (h : i < n) : (fill xs n).set i v = fill (xs ++ [v]) n := by
  subst hi
  unfold fill
  rw [List.set_append_right _ _ (Nat.le_refl _), Nat.sub_self, List.length_append]
  obtain ⟨m, hm⟩ : ∃ m, n - xs.length = m + 1 := ⟨n - xs.length - 1, by omega⟩
  rw [hm, List.replicate_succ, List.set_cons_zero, show n - (xs.length + [v].length) = m by simp; omega, List.append_assoc]
  rfl
theorem fill_zero (n : Nat) : fill [] n = List.replicate n 0 := by simp [fill]
theorem fill_all {xs : List Int} {n : Nat} (h : n ≤ xs.length) : fill xs n = xs := by simp [fill, Nat.sub_eq_zero_of_le h]

/-- k steps into a product with a short list. -/
def fIn (p a : Nat → Int) (i : Nat) : Nat → Int
  | 0 => 0
  | k + 1 => wrap32 (fIn p a i k + p k * a (i - k))
theorem fIn_in (p a : Nat → Int) (i : Nat) : ∀ k, -2147483648 ≤ fIn p a i k ∧ fIn p a i k ≤ 2147483647
  | 0 => ⟨by simp [fIn], by simp [fIn]⟩
  | _ + 1 => ⟨wrap32_lo _, wrap32_hi _⟩
/-- What comes out of a filter. -/
def fL (p a : Nat → Int) (lp : Nat) (b : Nat → Int) (lb : Nat) : Nat → List Int
  | 0 => []
  | i + 1 => fL p a lp b lb i ++ [qIn b (fL p a lp b lb i) i (fIn p a i (min (i + 1) lp)) (min i (lb - 1))]
theorem fL_eq (p a : Nat → Int) (lp : Nat) (b : Nat → Int) (lb : Nat) : ∀ i, fL p a lp b lb i = qL (fun i => fIn p a i (min (i + 1) lp)) b lb 1 i
  | 0 => rfl
  | i + 1 => by
    have := qIn_in (b := b) (out := qL (fun i => fIn p a i (min (i + 1) lp)) b lb 1 i) (i := i) (fIn_in p a i (min (i + 1) lp)) (min i (lb - 1))
    unfold fL qL
    rw [fL_eq p a lp b lb i, Int.mul_one, wrap32_id this.1 this.2]

/-- i steps into a row of a division. -/
def dRow (q : Int) (b : Nat → Int) (k : Nat) (F : Nat → Int) : Nat → (Nat → Int)
  | 0 => F
  | i + 1 => upd (dRow q b k F i) (k + i) (wrap32 (dRow q b k F i (k + i) - q * b i))
theorem dRow_in {q : Int} {b : Nat → Int} {k : Nat} {F : Nat → Int} (h : ∀ m, -2147483648 ≤ F m ∧ F m ≤ 2147483647) : ∀ i m, -2147483648 ≤ dRow q b k F i m ∧ dRow q b k F i m ≤ 2147483647
  | 0 => h
  | i + 1 => upd_in (dRow_in h i) ⟨wrap32_lo _, wrap32_hi _⟩
/-- The rest behind j steps of a division with K steps by n + 1 coefficients. -/
def dvR (b : Nat → Int) (n : Nat) (inv : Int) (F0 : Nat → Int) (K : Nat) : Nat → (Nat → Int)
  | 0 => F0
  | j + 1 => dRow (wrap32 (dvR b n inv F0 K j (K - 1 - j + n) * inv)) b (K - 1 - j) (dvR b n inv F0 K j) (n + 1)
def dvQ (b : Nat → Int) (n : Nat) (inv : Int) (F0 : Nat → Int) (K : Nat) (j : Nat) : Int := wrap32 (dvR b n inv F0 K j (K - 1 - j + n) * inv)
theorem dvR_in {b : Nat → Int} {n : Nat} {inv : Int} {F0 : Nat → Int} {K : Nat} (h : ∀ m, -2147483648 ≤ F0 m ∧ F0 m ≤ 2147483647) : ∀ j m, -2147483648 ≤ dvR b n inv F0 K j m ∧ dvR b n inv F0 K j m ≤ 2147483647
  | 0 => h
  | j + 1 => fun m => dRow_in (dvR_in h j) (n + 1) m
/-- The quotient behind j steps, from the front. -/
def qRev (b : Nat → Int) (n : Nat) (inv : Int) (F0 : Nat → Int) (K : Nat) : Nat → List Int
  | 0 => []
  | j + 1 => dvQ b n inv F0 K j :: qRev b n inv F0 K j
theorem qRev_length (b : Nat → Int) (n : Nat) (inv : Int) (F0 : Nat → Int) (K : Nat) : ∀ j, (qRev b n inv F0 K j).length = j
  | 0 => rfl
  | j + 1 => by simp [qRev, qRev_length b n inv F0 K j]
theorem qRev_getD (b : Nat → Int) (n : Nat) (inv : Int) (F0 : Nat → Int) (K : Nat) : ∀ j p, p < j → (qRev b n inv F0 K j).getD p 0 = dvQ b n inv F0 K (j - 1 - p)
  | 0, _, h => absurd h (by omega)
  | j + 1, 0, _ => by simp [qRev]
  | j + 1, p + 1, h => by
    have := qRev_getD b n inv F0 K j p (by omega)
    rw [show j + 1 - 1 - (p + 1) = j - 1 - p by omega, ← this]
    simp [qRev]
/-- The quotient behind j steps, in its place among la numbers. -/
def qPart (b : Nat → Int) (n : Nat) (inv : Int) (F0 : Nat → Int) (K : Nat) (j : Nat) : Nat → Int := fun p => if K - j ≤ p ∧ p < K then dvQ b n inv F0 K (K - 1 - p) else 0
theorem qPart_zero (b : Nat → Int) (n : Nat) (inv : Int) (F0 : Nat → Int) (K la : Nat) : List.replicate la (0 : Int) = tab la (qPart b n inv F0 K 0) := by
  rw [replicate_tab]
  apply tab_ext
  intro k _
  unfold qPart
  rw [if_neg (by omega)]
theorem qPart_set {b : Nat → Int} {n : Nat} {inv : Int} {F0 : Nat → Int} {K la j : Nat} {v : Int} (hj : j < K) (hv : v = dvQ b n inv F0 K j) : (tab la (qPart b n inv F0 K j)).set (K - 1 - j) v = tab la (qPart b n inv F0 K (j + 1)) := by
  rw [tab_set]
  apply tab_ext
  intro k _
  unfold upd qPart
  by_cases h : k = K - 1 - j
  · rw [if_pos h, if_pos (by omega), hv, show K - 1 - k = j by omega]
  · rw [if_neg h]
    by_cases h' : K - j ≤ k ∧ k < K
    · rw [if_pos h', if_pos (by omega)]
    · rw [if_neg h', if_neg (by omega)]
theorem q_same {b : Nat → Int} {n : Nat} {inv : Int} {F0 : Nat → Int} {K la : Nat} (h : K ≤ la) : trimL (tab la (qPart b n inv F0 K K)) = trimL (qRev b n inv F0 K K) := by
  apply trimL_congr
  intro k
  rcases Nat.lt_or_ge k K with hk | hk
  · rw [tab_getD (by omega), qRev_getD _ _ _ _ _ _ _ hk]
    unfold qPart
    rw [if_pos (by omega)]
  · rw [getD_behind (xs := qRev b n inv F0 K K) (by rw [qRev_length]; exact hk)]
    rcases Nat.lt_or_ge k la with hl | hl
    · rw [tab_getD hl]
      unfold qPart
      rw [if_neg (by omega)]
    · exact tab_behind hl
theorem qRev_in (b : Nat → Int) (n : Nat) (inv : Int) (F0 : Nat → Int) (K : Nat) : ∀ j, ∀ x ∈ qRev b n inv F0 K j, -2147483648 ≤ x ∧ x ≤ 2147483647
  | 0 => fun x hx => by simp [qRev] at hx
  | j + 1 => fun x hx => by
    unfold qRev at hx
    rw [List.mem_cons] at hx
    rcases hx with hx | hx
    · rw [hx]; exact ⟨wrap32_lo _, wrap32_hi _⟩
    · exact qRev_in b n inv F0 K j x hx

end Go.Proofs.YtplioelpmfeabaaDoor
