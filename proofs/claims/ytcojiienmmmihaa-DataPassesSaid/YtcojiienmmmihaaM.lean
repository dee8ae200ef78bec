/- The numbers of the layer rand, in plain Lean: the stir, the root, the word. No program in sight. -/
import Derived.Laws.Bits64
namespace Go.Proofs.Ytcojiienmmmihaa
namespace M

/-- x ^ (x / s). -/
def xs (x s : Nat) : Nat := x ^^^ x / s
/-- that times C, in 64 bits. -/
def mulx (x s C : Nat) : Nat := xs x s * C % 18446744073709551616
def stir (x : Nat) : Nat := xs (mulx (mulx x 4294967296 11400714819323198549) 536870912 15241094284759029579) 4294967296

theorem xs_lt (x s : Nat) (h : x < 18446744073709551616) : xs x s < 18446744073709551616 :=
  Nat.xor_lt_two_pow (n := 64) (by omega) (Nat.lt_of_le_of_lt (Nat.div_le_self _ _) (by omega))
theorem mulx_lt (x s C : Nat) : mulx x s C < 18446744073709551616 := Nat.mod_lt _ (by decide)

theorem stir_lt (x : Nat) : stir x < 18446744073709551616 := xs_lt _ _ (mulx_lt _ _ _)

def u64 (a : Int) : Nat := (a % 18446744073709551616).toNat

theorem u64_lt (a : Int) : u64 a < 18446744073709551616 := by unfold u64; omega
theorem u64_cast (a : Int) : ((u64 a : Nat) : Int) = a % 18446744073709551616 := by unfold u64; omega

def mix (w : Nat) (n : Int) : Nat := stir (((w ^^^ u64 n) + 14029467366897019727) % 18446744073709551616)
def seed (s : Nat) : Nat := stir ((s + 7046029254386353131) % 18446744073709551616)
def root (s : Nat) (a b c : Int) : Nat := mix (mix (mix (seed s) a) b) c
def word (s : Nat) (a b c i : Int) : Nat := stir (root s a b c ^^^ (u64 i * 11400714819323198485 % 18446744073709551616))

theorem mix_lt (w : Nat) (n : Int) : mix w n < 18446744073709551616 := stir_lt _
theorem seed_lt (s : Nat) : seed s < 18446744073709551616 := stir_lt _
theorem root_lt (s : Nat) (a b c : Int) : root s a b c < 18446744073709551616 := stir_lt _
theorem word_lt (s : Nat) (a b c i : Int) : word s a b c i < 18446744073709551616 := stir_lt _

theorem word_awake : word 1 0 0 0 0 ≠ 0 := by decide +kernel


theorem len_le_of_lt : ∀ (N : Nat) (l : List Nat), l.Nodup → (∀ x ∈ l, x < N) → l.length ≤ N
  | 0, [], _, _ => by simp
  | 0, x :: l, _, h => by have := h x (by simp); omega
  | N + 1, l, hn, h => by
    by_cases hm : N ∈ l
    · have h1 := len_le_of_lt N (l.erase N) (hn.erase N) (fun x hx => by
        have h2 := h x (List.mem_of_mem_erase hx)
        have h3 : x ≠ N := by
          intro e; subst e
          exact (List.Nodup.not_mem_erase hn) hx
        omega)
      rw [List.length_erase_of_mem hm] at h1
      omega
    · have h1 := len_le_of_lt N l hn (fun x hx => by
        have h2 := h x hx
        have h3 : x ≠ N := by intro e; subst e; exact hm hx
        omega)
      omega

/-- so many times. -/
def it (f : Nat → Nat) : Nat → Nat → Nat
  | 0, x => x
  | m + 1, x => it f m (f x)

theorem it_succ (f : Nat → Nat) : ∀ m x, it f (m + 1) x = f (it f m x)
  | 0, _ => rfl
  | m + 1, x => it_succ f m (f x)

theorem it_add (f : Nat → Nat) : ∀ a b x, it f (a + b) x = it f b (it f a x)
  | 0, b, x => by simp [it]
  | a + 1, b, x => by rw [show a + 1 + b = (a + b) + 1 by omega]; exact it_add f a b (f x)

/-- f and g turn the numbers below N about, each undoing the other. -/
structure Turns (N : Nat) (f g : Nat → Nat) : Prop where
  f_lt : ∀ x, x < N → f x < N
  g_lt : ∀ x, x < N → g x < N
  gf : ∀ x, x < N → g (f x) = x
  fg : ∀ x, x < N → f (g x) = x

theorem Turns.swap {N f g} (h : Turns N f g) : Turns N g f := ⟨h.g_lt, h.f_lt, h.fg, h.gf⟩
theorem Turns.it_lt {N f g} (h : Turns N f g) : ∀ m x, x < N → it f m x < N
  | 0, _, hx => hx
  | m + 1, x, hx => h.it_lt m (f x) (h.f_lt x hx)
theorem Turns.undo {N f g} (h : Turns N f g) : ∀ m x, x < N → it g m (it f m x) = x
  | 0, _, _ => rfl
  | m + 1, x, hx => by
    rw [it_succ g m, show it f (m + 1) x = it f m (f x) from rfl, h.undo m (f x) (h.f_lt x hx), h.gf x hx]

/-- Of it f 0 x .. it f N x two are one: so x comes again. -/
theorem Turns.comes_again {N f g} (h : Turns N f g) (x : Nat) (hx : x < N) : ∃ m, 1 ≤ m ∧ it f m x = x := by
  have hnot : ¬ ((List.range (N + 1)).map fun j => it f j x).Nodup := by
    intro hn
    have := len_le_of_lt N _ hn (by
      intro y hy
      obtain ⟨j, _, rfl⟩ := List.mem_map.1 hy
      exact h.it_lt j x hx)
    simp at this
    omega
  have : ∃ a b, a < b ∧ it f a x = it f b x := by
    apply Classical.byContradiction
    intro hne
    apply hnot
    rw [List.nodup_iff_pairwise_ne, List.pairwise_map]
    refine List.Pairwise.imp ?_ List.pairwise_lt_range
    intro a b hab e
    exact hne ⟨a, b, hab, e⟩
  obtain ⟨a, b, hab, e⟩ := this
  refine ⟨b - a, by omega, ?_⟩
  have e2 : it f b x = it f a (it f (b - a) x) := by rw [← it_add, Nat.sub_add_cancel (by omega)]
  rw [e2] at e
  have u1 := h.undo a x hx
  have u2 := h.undo a (it f (b - a) x) (h.it_lt _ _ hx)
  rw [← e, u1] at u2
  exact u2.symm

/-- y is the first one below n behind x. -/
def First (f : Nat → Nat) (n x : Nat) (m y : Nat) : Prop := 1 ≤ m ∧ it f m x = y ∧ y < n ∧ ∀ j, 1 ≤ j → j < m → n ≤ it f j x

theorem first_exists (f : Nat → Nat) (n x : Nat) : ∀ m, 1 ≤ m → it f m x < n → ∃ m' y, First f n x m' y ∧ m' ≤ m := by
  intro m
  induction m using Nat.strongRecOn with
  | ind m ih =>
    intro h1 h2
    by_cases hall : ∀ j, 1 ≤ j → j < m → n ≤ it f j x
    · exact ⟨m, _, ⟨h1, rfl, h2, hall⟩, Nat.le_refl _⟩
    · have : ∃ j, 1 ≤ j ∧ j < m ∧ it f j x < n := by
        apply Classical.byContradiction
        intro hne
        apply hall
        intro j hj1 hj2
        apply Classical.byContradiction
        intro hlt
        exact hne ⟨j, hj1, hj2, by omega⟩
      obtain ⟨j, hj1, hj2, hj3⟩ := this
      obtain ⟨m', y, hf, hm⟩ := ih j hj2 hj1 hj3
      exact ⟨m', y, hf, by omega⟩

theorem First.uniq {f n x m y m' y'} (h : First f n x m y) (h' : First f n x m' y') : m = m' ∧ y = y' := by
  obtain ⟨a1, a2, a3, a4⟩ := h
  obtain ⟨b1, b2, b3, b4⟩ := h'
  have : m = m' := by
    rcases Nat.lt_trichotomy m m' with hl | he | hl
    · have := b4 m a1 hl; omega
    · exact he
    · have := a4 m' b1 hl; omega
  subst this
  exact ⟨rfl, a2.symm.trans b2⟩

theorem Turns.first {N f g} (h : Turns N f g) {n x : Nat} (hn : n ≤ N) (hx : x < n) : ∃ m y, First f n x m y := by
  obtain ⟨m, h1, h2⟩ := h.comes_again x (by omega)
  obtain ⟨m', y, hf, _⟩ := first_exists f n x m h1 (by omega)
  exact ⟨m', y, hf⟩

theorem Turns.first_back {N f g} (h : Turns N f g) {n x m y : Nat} (hn : n ≤ N) (hx : x < n) (hf : First f n x m y) : First g n y m x := by
  obtain ⟨a1, a2, a3, a4⟩ := hf
  refine ⟨a1, ?_, hx, ?_⟩
  · rw [← a2]; exact h.undo m x (by omega)
  · intro j hj1 hj2
    have e : it g j y = it f (m - j) x := by
      rw [← a2, show m = (m - j) + j by omega, it_add, show m - j + j - j = m - j by omega]
      exact h.undo j _ (h.it_lt _ _ (by omega))
    rw [e]
    exact a4 (m - j) (by omega) (by omega)

/-- The first one below n behind x (0, if there is none). -/
noncomputable def place (f : Nat → Nat) (n x : Nat) : Nat := open Classical in if h : ∃ m y, First f n x m y then h.choose_spec.choose else 0

theorem place_of {f n x m y} (h : First f n x m y) : place f n x = y := by
  unfold place
  have hh : ∃ m y, First f n x m y := ⟨m, y, h⟩
  rw [dif_pos hh]
  exact (First.uniq hh.choose_spec.choose_spec h).2

theorem Turns.place_lt {N f g} (h : Turns N f g) {n x : Nat} (hn : n ≤ N) (hx : x < n) : place f n x < n := by
  obtain ⟨m, y, hf⟩ := h.first hn hx
  rw [place_of hf]; exact hf.2.2.1
theorem Turns.place_back {N f g} (h : Turns N f g) {n x : Nat} (hn : n ≤ N) (hx : x < n) : place g n (place f n x) = x := by
  obtain ⟨m, y, hf⟩ := h.first hn hx
  rw [place_of hf]; exact place_of (h.first_back hn hx hf)

-- the rounds
def rnd (mix : Nat → Nat) (p : Nat × Nat) : Nat × Nat := (p.2, p.1 ^^^ mix p.2)
def dnr (mix : Nat → Nat) (p : Nat × Nat) : Nat × Nat := (p.2 ^^^ mix p.1, p.1)
theorem xor_xor (a b : Nat) : a ^^^ b ^^^ b = a := by rw [Nat.xor_assoc, Nat.xor_self, Nat.xor_zero]
theorem dnr_rnd (mix) (p : Nat × Nat) : dnr mix (rnd mix p) = p := by
  obtain ⟨l, r⟩ := p
  simp [rnd, dnr, xor_xor]
theorem rnd_dnr (mix) (p : Nat × Nat) : rnd mix (dnr mix p) = p := by
  obtain ⟨l, r⟩ := p
  simp [rnd, dnr, xor_xor]
def In (b : Nat) (p : Nat × Nat) : Prop := p.1 < 2 ^ b ∧ p.2 < 2 ^ b
theorem rnd_in {b} {mix : Nat → Nat} (hm : ∀ r, mix r < 2 ^ b) {p} (h : In b p) : In b (rnd mix p) := ⟨h.2, Nat.xor_lt_two_pow h.1 (hm _)⟩
theorem dnr_in {b} {mix : Nat → Nat} (hm : ∀ r, mix r < 2 ^ b) {p} (h : In b p) : In b (dnr mix p) := ⟨Nat.xor_lt_two_pow h.2 (hm _), h.1⟩

def trip4 (mix : Nat → Nat → Nat) (p : Nat × Nat) : Nat × Nat := rnd (mix 3) (rnd (mix 2) (rnd (mix 1) (rnd (mix 0) p)))
def pirt4 (mix : Nat → Nat → Nat) (p : Nat × Nat) : Nat × Nat := dnr (mix 0) (dnr (mix 1) (dnr (mix 2) (dnr (mix 3) p)))
def fold (b : Nat) (x : Nat) : Nat × Nat := (x / 2 ^ b, x % 2 ^ b)
def flat (b : Nat) (p : Nat × Nat) : Nat := p.1 * 2 ^ b + p.2
def there (b : Nat) (mix : Nat → Nat → Nat) (x : Nat) : Nat := flat b (trip4 mix (fold b x))
def here (b : Nat) (mix : Nat → Nat → Nat) (x : Nat) : Nat := flat b (pirt4 mix (fold b x))

theorem fold_in {b x} (h : x < 2 ^ b * 2 ^ b) : In b (fold b x) := ⟨Nat.div_lt_of_lt_mul h, Nat.mod_lt _ (Nat.two_pow_pos b)⟩
theorem flat_fold (b x) : flat b (fold b x) = x := Nat.div_add_mod' x (2 ^ b)
theorem fold_flat {b p} (h : In b p) : fold b (flat b p) = p := by
  obtain ⟨l, r⟩ := p
  have hp := Nat.two_pow_pos b
  have h2 : r < 2 ^ b := h.2
  simp only [fold, flat]
  rw [Nat.add_comm, Nat.add_mul_div_right _ _ hp, Nat.div_eq_of_lt h2, Nat.add_mul_mod_self_right, Nat.mod_eq_of_lt h2, Nat.zero_add]
theorem flat_lt {b p} (h : In b p) : flat b p < 2 ^ b * 2 ^ b := by
  obtain ⟨l, r⟩ := p
  have h1 : l < 2 ^ b := h.1
  have h2 : r < 2 ^ b := h.2
  simp only [flat]
  calc l * 2 ^ b + r < l * 2 ^ b + 2 ^ b := by omega
    _ = (l + 1) * 2 ^ b := by rw [Nat.add_mul, Nat.one_mul]
    _ ≤ 2 ^ b * 2 ^ b := Nat.mul_le_mul_right _ h1
theorem trip4_in {b} {mix : Nat → Nat → Nat} (hm : ∀ t r, mix t r < 2 ^ b) {p} (h : In b p) : In b (trip4 mix p) :=
  rnd_in (hm 3) (rnd_in (hm 2) (rnd_in (hm 1) (rnd_in (hm 0) h)))
theorem pirt4_in {b} {mix : Nat → Nat → Nat} (hm : ∀ t r, mix t r < 2 ^ b) {p} (h : In b p) : In b (pirt4 mix p) :=
  dnr_in (hm 0) (dnr_in (hm 1) (dnr_in (hm 2) (dnr_in (hm 3) h)))
theorem turns {b} {mix : Nat → Nat → Nat} (hm : ∀ t r, mix t r < 2 ^ b) : Turns (2 ^ b * 2 ^ b) (there b mix) (here b mix) := by
  refine ⟨fun x hx => flat_lt (trip4_in hm (fold_in hx)), fun x hx => flat_lt (pirt4_in hm (fold_in hx)), fun x hx => ?_, fun x hx => ?_⟩
  · simp only [here, there]
    rw [fold_flat (trip4_in hm (fold_in hx))]
    simp only [pirt4, trip4, dnr_rnd]
    exact flat_fold b x
  · simp only [here, there]
    rw [fold_flat (pirt4_in hm (fold_in hx))]
    simp only [pirt4, trip4, rnd_dnr]
    exact flat_fold b x

-- an order of numbers
def swapAt (l : List Int) (i j : Nat) : List Int := (l.set i (l.getD j 0)).set j (l.getD i 0)
theorem swapAt_length (l : List Int) (i j : Nat) : (swapAt l i j).length = l.length := by simp [swapAt]
theorem swapAt_getD (l : List Int) (i j k : Nat) (hi : i < l.length) (hj : j < l.length) :
    (swapAt l i j).getD k 0 = if k = j then l.getD i 0 else if k = i then l.getD j 0 else l.getD k 0 := by
  unfold swapAt
  simp only [List.getD, List.getElem?_set, List.length_set]
  by_cases h1 : k = j
  · subst h1
    simp [hj]
  · rw [if_neg (fun e => h1 e.symm), if_neg h1]
    by_cases h2 : k = i
    · subst h2; simp [hi]
    · rw [if_neg (fun e => h2 e.symm), if_neg h2]

def shuf (f : Nat → Nat) : Nat → List Int → List Int
  | 0, l => l
  | i + 1, l => shuf f i (swapAt l (i + 1) (f (i + 1)))
theorem shuf_length (f : Nat → Nat) : ∀ m l, (shuf f m l).length = l.length
  | 0, _ => rfl
  | m + 1, l => by rw [shuf, shuf_length f m, swapAt_length]

/-- n numbers below n, no two of them one. -/
structure Order (n : Nat) (l : List Int) : Prop where
  len : l.length = n
  bd : ∀ k, k < n → 0 ≤ l.getD k 0 ∧ l.getD k 0 < n
  inj : ∀ a b, a < n → b < n → l.getD a 0 = l.getD b 0 → a = b

theorem Order.swap {n l i j} (h : Order n l) (hi : i < n) (hj : j < n) : Order n (swapAt l i j) := by
  have hi' : i < l.length := by rw [h.len]; exact hi
  have hj' : j < l.length := by rw [h.len]; exact hj
  refine ⟨by rw [swapAt_length, h.len], fun k hk => ?_, fun a b ha hb e => ?_⟩
  · rw [swapAt_getD l i j k hi' hj']
    split
    · exact h.bd i hi
    · split
      · exact h.bd j hj
      · exact h.bd k hk
  · have key : ∀ k, (swapAt l i j).getD k 0 = l.getD (if k = j then i else if k = i then j else k) 0 := by
      intro k
      rw [swapAt_getD l i j k hi' hj']
      split
      · rfl
      · split <;> rfl
    rw [key a, key b] at e
    have := h.inj _ _ (by split; · exact hi
                          · split
                            · exact hj
                            · exact ha) (by split; · exact hi
                                            · split
                                              · exact hj
                                              · exact hb) e
    revert this
    repeat' split
    all_goals (intro this; omega)
theorem Order.shuf {n} {f : Nat → Nat} (hf : ∀ i, f i ≤ i) : ∀ m l, m < n → Order n l → Order n (shuf f m l)
  | 0, _, _, h => h
  | m + 1, l, hm, h => Order.shuf hf m _ (by omega) (h.swap hm (Nat.lt_of_le_of_lt (hf _) hm))

def upTo (n : Nat) : List Int := (List.range n).map fun (i : Nat) => (i : Int)
theorem upTo_getD (n k : Nat) (h : k < n) : (upTo n).getD k 0 = k := by simp [upTo, List.getD, h]
theorem order_upTo (n : Nat) : Order n (upTo n) := by
  refine ⟨by simp [upTo], fun k hk => ?_, fun a b ha hb e => ?_⟩
  · rw [upTo_getD n k hk]; omega
  · rw [upTo_getD n a ha, upTo_getD n b hb] at e; omega
theorem upTo_succ (n : Nat) : upTo (n + 1) = upTo n ++ [(n : Int)] := by simp [upTo, List.range_succ]
def perm (f : Nat → Nat) (n : Nat) : List Int := shuf f (n - 1) (upTo n)
theorem order_perm {f : Nat → Nat} (hf : ∀ i, f i ≤ i) (n : Nat) : Order n (perm f n) := by
  unfold perm
  cases n with
  | zero => exact order_upTo 0
  | succ n => exact Order.shuf hf n _ (by omega) (order_upTo _)


-- numbers of six digits to the base 2^32 (lowest first)
def carry (a b : Nat → Nat) : Nat → Nat
  | 0 => 0
  | i + 1 => (a i + b i + carry a b i) / 4294967296
def dig (a b : Nat → Nat) (i : Nat) : Nat := (a i + b i + carry a b i) % 4294967296
theorem carry_le {a b : Nat → Nat} (ha : ∀ i, a i < 4294967296) (hb : ∀ i, b i < 4294967296) : ∀ i, carry a b i ≤ 1
  | 0 => by simp [carry]
  | i + 1 => by have := carry_le ha hb i; have := ha i; have := hb i; simp only [carry]; omega
theorem dig_lt (a b i) : dig a b i < 4294967296 := Nat.mod_lt _ (by decide)
/-- n digits from the place i on. -/
def vals (a : Nat → Nat) : Nat → Nat → Nat
  | 0, _ => 0
  | n + 1, i => a i + 4294967296 * vals a n (i + 1)
theorem vals_dig (a b : Nat → Nat) : ∀ n i, vals (dig a b) n i + 4294967296 ^ n * carry a b (i + n) = vals a n i + vals b n i + carry a b i
  | 0, i => by simp [vals]
  | n + 1, i => by
    have ih := vals_dig a b n (i + 1)
    rw [show i + 1 + n = i + (n + 1) by omega] at ih
    have e : carry a b (i + 1) = (a i + b i + carry a b i) / 4294967296 := rfl
    have d : dig a b i = (a i + b i + carry a b i) % 4294967296 := rfl
    simp only [vals]
    rw [show 4294967296 ^ (n + 1) * carry a b (i + (n + 1)) = 4294967296 * (4294967296 ^ n * carry a b (i + (n + 1))) by rw [Nat.pow_succ, Nat.mul_comm (4294967296 ^ n) 4294967296, Nat.mul_assoc]]
    generalize 4294967296 ^ n * carry a b (i + (n + 1)) = t at *
    omega
def val (a : Nat → Nat) : Nat := vals a 6 0
theorem val_dig {a b : Nat → Nat} (h : val a + val b < 4294967296 ^ 6) : val (dig a b) = val a + val b := by
  have := vals_dig a b 6 0
  rw [show carry a b 0 = 0 from rfl] at this
  unfold val at *
  rcases Nat.eq_zero_or_pos (carry a b (0 + 6)) with h0 | h0
  · rw [h0] at this; omega
  · have := Nat.mul_le_mul_left (4294967296 ^ 6) h0
    omega
def one64 (a places : Nat) : Nat → Nat := fun i => if i = places then a % 4294967296 else if i = places + 1 then a / 4294967296 else 0
theorem one64_lt {a places : Nat} (h : a < 18446744073709551616) (i) : one64 a places i < 4294967296 := by unfold one64; split <;> (try split) <;> omega
theorem val_one0 (a : Nat) : val (one64 a 0) = a := by simp [val, vals, one64]; omega
theorem val_one1 (a : Nat) : val (one64 a 1) = 4294967296 * a := by simp [val, vals, one64]; omega
theorem val_one2 (a : Nat) : val (one64 a 2) = 4294967296 * (4294967296 * a) := by simp [val, vals, one64]; omega
def product (a b : Nat) : Nat → Nat :=
  dig (dig (dig (one64 (a % 4294967296 * (b % 4294967296)) 0) (one64 (a / 4294967296 * (b % 4294967296)) 1)) (one64 (a % 4294967296 * (b / 4294967296)) 1)) (one64 (a / 4294967296 * (b / 4294967296)) 2)
theorem half_mul_le {a b : Nat} (ha : a ≤ 4294967295) (hb : b ≤ 4294967295) : a * b ≤ 18446744065119617025 := Nat.mul_le_mul ha hb
theorem split_mul (x1 x0 y1 y0 K : Nat) : (x1 * K + x0) * (y1 * K + y0) = x1 * y1 * (K * K) + (x1 * y0 + x0 * y1) * K + x0 * y0 := by
  rw [Nat.add_mul, Nat.mul_add, Nat.mul_add, Nat.mul_mul_mul_comm, Nat.mul_right_comm x1 K y0, ← Nat.mul_assoc x0 y1 K, Nat.add_mul]
  omega
theorem val_sum (x y z t : Nat) (hx : x ≤ 18446744065119617025) (hy : y ≤ 18446744065119617025) (hz : z ≤ 18446744065119617025) (ht : t ≤ 18446744065119617025) :
    val (dig (dig (dig (one64 t 0) (one64 y 1)) (one64 z 1)) (one64 x 2)) = t + 4294967296 * y + 4294967296 * z + 4294967296 * (4294967296 * x) := by
  have P : (4294967296 : Nat) ^ 6 = 4294967296 * (4294967296 * (4294967296 * (4294967296 * (4294967296 * 4294967296)))) := by decide
  have w1 : val (dig (one64 t 0) (one64 y 1)) = t + 4294967296 * y := by
    rw [val_dig (by rw [val_one0, val_one1, P]; omega), val_one0, val_one1]
  have w2 : val (dig (dig (one64 t 0) (one64 y 1)) (one64 z 1)) = t + 4294967296 * y + 4294967296 * z := by
    rw [val_dig (by rw [w1, val_one1, P]; omega), w1, val_one1]
  rw [val_dig (by rw [w2, val_one2, P]; omega), w2, val_one2]
theorem val_product {a b : Nat} (ha : a < 18446744073709551616) (hb : b < 18446744073709551616) : val (product a b) = a * b := by
  have h1 := half_mul_le (a := a / 4294967296) (b := b / 4294967296) (by omega) (by omega)
  have h2 := half_mul_le (a := a / 4294967296) (b := b % 4294967296) (by omega) (by omega)
  have h3 := half_mul_le (a := a % 4294967296) (b := b / 4294967296) (by omega) (by omega)
  have h4 := half_mul_le (a := a % 4294967296) (b := b % 4294967296) (by omega) (by omega)
  have e : a * b = (a / 4294967296) * (b / 4294967296) * (4294967296 * 4294967296) + ((a / 4294967296) * (b % 4294967296) + (a % 4294967296) * (b / 4294967296)) * 4294967296 + (a % 4294967296) * (b % 4294967296) := by
    rw [← split_mul, Nat.div_add_mod' a 4294967296, Nat.div_add_mod' b 4294967296]
  unfold product
  rw [val_sum _ _ _ _ h1 h2 h3 h4, e]
  generalize (a / 4294967296) * (b / 4294967296) = x
  generalize (a / 4294967296) * (b % 4294967296) = y
  generalize (a % 4294967296) * (b / 4294967296) = z
  generalize (a % 4294967296) * (b % 4294967296) = t
  omega
theorem product_lt (a b i) : product a b i < 4294967296 := dig_lt _ _ _
theorem high_of {d0 d1 d2 d3 r n : Nat} (v : d0 + 4294967296 * (d1 + 4294967296 * (d2 + 4294967296 * (d3 + 4294967296 * r))) = n) (l : n < 4294967296 * (4294967296 * (4294967296 * 4294967296))) (p0 : d0 < 4294967296) (p1 : d1 < 4294967296) :
    d3 * 4294967296 + d2 = n / 18446744073709551616 := by
  subst v
  have : r = 0 := by omega
  subst this
  omega
theorem mid_of {d0 d1 d2 r n : Nat} (v : d0 + 4294967296 * (d1 + 4294967296 * (d2 + 4294967296 * r)) = n) (l : n < 4294967296 * (4294967296 * 4294967296)) (p0 : d0 < 4294967296) :
    d2 * 4294967296 + d1 = n / 4294967296 := by
  subst v
  have : r = 0 := by omega
  subst this
  omega
theorem product_high {a b : Nat} (ha : a < 18446744073709551616) (hb : b < 18446744073709551616) : product a b 3 * 4294967296 + product a b 2 = a * b / 18446744073709551616 := by
  have l : a * b < 18446744073709551616 * 18446744073709551616 := Nat.mul_lt_mul'' ha hb
  exact high_of (val_product ha hb) (by omega) (product_lt a b 0) (product_lt a b 1)
theorem product_mid {a b : Nat} (ha : a < 18446744073709551616) (hb : b < 4294967296) : product a b 2 * 4294967296 + product a b 1 = a * b / 4294967296 := by
  have l : a * b < 18446744073709551616 * 4294967296 := Nat.mul_lt_mul'' ha hb
  exact mid_of (val_product ha (by omega)) (by omega) (product_lt a b 0)

/-- the upper half of a product, and the number below n that a word gives. -/
def high (x y : Nat) : Nat := x * y / 18446744073709551616
theorem high_lt {x y : Nat} (hx : x < 18446744073709551616) (hy : 0 < y) : high x y < y := by
  unfold high
  exact Nat.div_lt_of_lt_mul (Nat.mul_lt_mul_of_pos_right hx hy)
def below (s : Nat) (a b c i : Int) (n : Nat) : Nat := high (word s a b c i) n
theorem below_lt (s : Nat) (a b c i : Int) {n : Nat} (hn : 0 < n) : below s a b c i n < n := high_lt (word_lt _ _ _ _ _) hn

end M
end Go.Proofs.Ytcojiienmmmihaa
