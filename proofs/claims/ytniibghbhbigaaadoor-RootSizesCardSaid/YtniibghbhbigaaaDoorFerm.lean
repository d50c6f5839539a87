/- Plain: powers modulo a prime: Fermat's little theorem, orders, the bound on a polynomial's roots, and that there is a number whose powers are all. No program is named here. -/
import Derived.Test.YtniibghbhbigaaaDoorNumb
namespace Go.Proofs.YtniibghbhbigaaaDoor
set_option linter.unusedVariables false

/-! lists without repetition -/

theorem perm_of_sub : ∀ (l1 l2 : List Nat), l1.Nodup → (∀ x, x ∈ l1 → x ∈ l2) → l2.length ≤ l1.length → l1.Perm l2 := by
  intro l1
  induction l1 with
  | nil =>
    intro l2 _ _ hl
    have : l2 = [] := List.eq_nil_of_length_eq_zero (by simpa using hl)
    rw [this]
  | cons a t ih =>
    intro l2 hn hs hl
    rw [List.nodup_cons] at hn
    have ha : a ∈ l2 := hs a (by simp)
    have hp := List.perm_cons_erase ha
    refine List.Perm.trans (List.Perm.cons a (ih (l2.erase a) hn.2 (fun x hx => ?_) ?_)) hp.symm
    · exact (List.mem_erase_of_ne (by rintro rfl; exact hn.1 hx)).2 (hs x (by simp [hx]))
    · rw [List.length_erase_of_mem ha]; simp at hl; omega

def prodN : List Nat → Nat
  | [] => 1
  | x :: l => x * prodN l

theorem prodN_perm {l1 l2 : List Nat} (h : l1.Perm l2) : prodN l1 = prodN l2 := by
  induction h with
  | nil => rfl
  | cons x _ ih => simp only [prodN]; rw [ih]
  | swap x y l => simp only [prodN]; rw [Nat.mul_left_comm]
  | trans _ _ h1 h2 => exact h1.trans h2

/-- the numbers from 1 to n -/
def upto (n : Nat) : List Nat := (List.range n).map (· + 1)

theorem mem_upto {n x : Nat} : x ∈ upto n ↔ 1 ≤ x ∧ x ≤ n := by
  unfold upto
  rw [List.mem_map]
  constructor
  · rintro ⟨i, hi, rfl⟩; rw [List.mem_range] at hi; omega
  · rintro ⟨h1, h2⟩; exact ⟨x - 1, by rw [List.mem_range]; omega, by omega⟩
theorem len_upto (n : Nat) : (upto n).length = n := by simp [upto]
theorem nodup_map_on {f : Nat → Nat} : ∀ {l : List Nat}, l.Nodup → (∀ x, x ∈ l → ∀ y, y ∈ l → f x = f y → x = y) → (l.map f).Nodup := by
  intro l
  induction l with
  | nil => intro _ _; exact List.nodup_nil
  | cons a t ih =>
    intro hn hi
    rw [List.nodup_cons] at hn
    rw [List.map_cons, List.nodup_cons]
    refine ⟨fun hm => ?_, ih hn.2 fun x hx y hy => hi x (by simp [hx]) y (by simp [hy])⟩
    obtain ⟨b, hb, e⟩ := List.mem_map.1 hm
    have := hi b (by simp [hb]) a (by simp) e
    subst this
    exact hn.1 hb
theorem nodup_upto (n : Nat) : (upto n).Nodup := nodup_map_on List.nodup_range fun x _ y _ h => by omega

/-! Fermat -/

theorem mod_iff_sub {q x y : Nat} (h : x ≤ y) : x % q = y % q ↔ q ∣ y - x := by
  constructor
  · intro e; exact Nat.dvd_of_mod_eq_zero (Nat.sub_mod_eq_zero_of_mod_eq e.symm)
  · rintro ⟨c, hc⟩
    have : y = x + q * c := by omega
    rw [this, Nat.add_mul_mod_self_left]

theorem Pr.cancel {q a x y : Nat} (hq : Pr q) (ha : ¬ q ∣ a) (h : a * x % q = a * y % q) : x % q = y % q := by
  rcases Nat.le_total x y with hxy | hxy
  · have h1 := (mod_iff_sub (Nat.mul_le_mul_left a hxy)).1 h
    rw [← Nat.mul_sub] at h1
    rcases hq.dvd_mul h1 with hd | hd
    · exact absurd hd ha
    · exact (mod_iff_sub hxy).2 hd
  · have h1 := (mod_iff_sub (Nat.mul_le_mul_left a hxy)).1 h.symm
    rw [← Nat.mul_sub] at h1
    rcases hq.dvd_mul h1 with hd | hd
    · exact absurd hd ha
    · exact ((mod_iff_sub hxy).2 hd).symm

theorem prodN_mod (q a : Nat) : ∀ l : List Nat, prodN (l.map fun i => a * i % q) % q = a ^ l.length * prodN l % q := by
  intro l
  induction l with
  | nil => rfl
  | cons x l ih =>
    simp only [List.map_cons, prodN, List.length_cons]
    rw [Nat.mul_mod, ih, ← Nat.mul_mod, Nat.mod_mul_mod]
    congr 1
    rw [Nat.pow_succ, Nat.mul_mul_mul_comm, Nat.mul_comm a (a ^ l.length), Nat.mul_mul_mul_comm]

theorem Pr.prodN_not {q : Nat} (hq : Pr q) : ∀ l : List Nat, (∀ x, x ∈ l → ¬ q ∣ x) → ¬ q ∣ prodN l := by
  intro l
  induction l with
  | nil => intro _ h; have h2 := Nat.le_of_dvd (by simp [prodN]) h; have := hq.1; simp only [prodN] at h2; omega
  | cons x l ih =>
    intro h hd
    rcases hq.dvd_mul hd with hd | hd
    · exact h x (by simp) hd
    · exact ih (fun y hy => h y (by simp [hy])) hd

theorem not_dvd_small {q x : Nat} (h1 : 1 ≤ x) (h2 : x < q) : ¬ q ∣ x := fun hd => by have := Nat.le_of_dvd (by omega) hd; omega

theorem fermat {q a : Nat} (hq : Pr q) (ha : ¬ q ∣ a) : a ^ (q - 1) % q = 1 := by
  have hq2 := hq.1
  have hp : ((upto (q - 1)).map fun i => a * i % q).Perm (upto (q - 1)) := by
    apply perm_of_sub
    · apply nodup_map_on (nodup_upto _)
      intro x hx y hy h
      rw [mem_upto] at hx hy
      have := hq.cancel ha h
      rwa [Nat.mod_eq_of_lt (by omega), Nat.mod_eq_of_lt (by omega)] at this
    · intro x hx
      obtain ⟨i, hi, rfl⟩ := List.mem_map.1 hx
      rw [mem_upto] at hi ⊢
      have hlt := Nat.mod_lt (a * i) (show 0 < q by omega)
      refine ⟨?_, by omega⟩
      apply Nat.one_le_iff_ne_zero.2
      intro h0
      rcases hq.dvd_mul (Nat.dvd_of_mod_eq_zero h0) with hd | hd
      · exact ha hd
      · exact not_dvd_small hi.1 (by omega) hd
    · simp
  have h1 := prodN_mod q a (upto (q - 1))
  rw [prodN_perm hp, len_upto] at h1
  have h2 : ¬ q ∣ prodN (upto (q - 1)) := hq.prodN_not _ fun x hx => by
    rw [mem_upto] at hx; exact not_dvd_small hx.1 (by omega)
  have h3 : prodN (upto (q - 1)) * 1 % q = prodN (upto (q - 1)) * a ^ (q - 1) % q := by
    rw [Nat.mul_one, Nat.mul_comm _ (a ^ (q - 1))]; exact h1
  have h4 := hq.cancel h2 h3
  rw [← h4]; exact Nat.mod_eq_of_lt (by omega)

/-! orders -/

/-- k is the least exponent above 0 at which a's power is 1 -/
structure IsOrd (q a k : Nat) : Prop where
  pos : 1 ≤ k
  one : a ^ k % q = 1
  least : ∀ m, 1 ≤ m → m < k → a ^ m % q ≠ 1

theorem pow_mod_mul {q a k m : Nat} (h : a ^ k % q = 1) (hq : 2 ≤ q) : a ^ (k * m) % q = 1 := by
  rw [Nat.pow_mul, Nat.pow_mod, h, Nat.one_pow]; exact Nat.mod_eq_of_lt hq
theorem pow_mod_add {q a k m : Nat} (h : a ^ k % q = 1) : a ^ (k + m) % q = a ^ m % q := by
  rw [Nat.pow_add, Nat.mul_mod, h, Nat.one_mul, Nat.mod_mod]
theorem IsOrd.dvd {q a k m : Nat} (h : IsOrd q a k) (hq : 2 ≤ q) (hm : a ^ m % q = 1) : k ∣ m := by
  have e : m = k * (m / k) + m % k := (Nat.div_add_mod m k).symm
  have h1 : a ^ (m % k) % q = 1 := by
    rw [e, pow_mod_add (pow_mod_mul h.one hq)] at hm; exact hm
  have hlt := Nat.mod_lt m (show 0 < k from h.pos)
  rcases Nat.eq_zero_or_pos (m % k) with h0 | h0
  · exact Nat.dvd_of_mod_eq_zero h0
  · exact absurd h1 (h.least _ h0 hlt)
theorem IsOrd.pow {q a k m : Nat} (h : IsOrd q a k) (hq : 2 ≤ q) (hd : k ∣ m) : a ^ m % q = 1 := by
  obtain ⟨c, rfl⟩ := hd
  exact pow_mod_mul h.one hq

/-- the first number with a property -/
theorem first_of (P : Nat → Prop) : ∀ n, P n → ∃ m, m ≤ n ∧ P m ∧ ∀ k, k < m → ¬ P k := by
  intro n
  induction n using Nat.strongRecOn with
  | _ n ih =>
    intro hn
    by_cases h : ∃ k, k < n ∧ P k
    · obtain ⟨k, hk, hp⟩ := h
      obtain ⟨m, h1, h2, h3⟩ := ih k hk hp
      exact ⟨m, by omega, h2, h3⟩
    · exact ⟨n, Nat.le_refl _, hn, fun k hk hp => h ⟨k, hk, hp⟩⟩

theorem exists_ord {q a n : Nat} (hn : 1 ≤ n) (h : a ^ n % q = 1) : ∃ k, IsOrd q a k ∧ k ≤ n := by
  obtain ⟨m, h1, h2, h3⟩ := first_of (fun k => 1 ≤ k ∧ a ^ k % q = 1) n ⟨hn, h⟩
  exact ⟨m, ⟨h2.1, h2.2, fun k hk1 hk2 hp => h3 k hk2 ⟨hk1, hp⟩⟩, h1⟩

theorem IsOrd.uniq {q a k m : Nat} (h : IsOrd q a k) (h' : IsOrd q a m) : k = m := by
  rcases Nat.lt_trichotomy k m with hl | he | hl
  · exact absurd h.one (h'.least k h.pos hl)
  · exact he
  · exact absurd h'.one (h.least m h'.pos hl)

/-- the order of a number, by the primes of a number to which its power is 1 -/
theorem ord_of_primes {q a k : Nat} (hq : 2 ≤ q) (hk : 1 ≤ k) (h1 : a ^ k % q = 1) (h : ∀ p, Pr p → p ∣ k → a ^ (k / p) % q ≠ 1) : IsOrd q a k := by
  obtain ⟨m, hm, hle⟩ := exists_ord hk h1
  obtain ⟨c, hc⟩ := hm.dvd hq h1
  by_cases hc1 : c = 1
  · subst hc1; rw [Nat.mul_one] at hc; rw [hc]; exact hm
  · exfalso
    have hm1 := hm.pos
    have hc2 : 2 ≤ c := by
      rcases Nat.eq_zero_or_pos c with e | e
      · subst e; simp at hc; omega
      · omega
    -- a prime of c: its least divisor
    obtain ⟨p, _, hp2, hp3⟩ := first_of (fun d => 2 ≤ d ∧ d ∣ c) c ⟨hc2, Nat.dvd_refl c⟩
    have hp : Pr p := ⟨hp2.1, fun d hd hlt h0 => hp3 d hlt ⟨hd, Nat.dvd_trans (Nat.dvd_of_mod_eq_zero h0) hp2.2⟩⟩
    obtain ⟨e, he⟩ := hp2.2
    refine h p hp (by rw [hc, he]; exact Nat.dvd_mul_left_of_dvd (Nat.dvd_mul_right _ _) _) ?_
    have : k / p = m * e := by
      rw [hc, he, Nat.mul_left_comm, Nat.mul_div_cancel_left _ (by have := hp2.1; omega)]
    rw [this]
    exact pow_mod_mul hm.one hq

theorem ord_mul {q a b k l : Nat} (hq : 2 ≤ q) (ha : IsOrd q a k) (hb : IsOrd q b l) (hg : Nat.gcd k l = 1) : IsOrd q (a * b) (k * l) := by
  have hk := ha.pos
  have hl := hb.pos
  refine ⟨Nat.mul_pos hk hl, ?_, fun m h1 h2 hm => ?_⟩
  · rw [Nat.mul_pow, Nat.mul_mod, pow_mod_mul ha.one hq, Nat.mul_comm k l, pow_mod_mul hb.one hq]; exact Nat.mod_eq_of_lt hq
  · have e1 : l ∣ m := by
      have h3 : (a * b) ^ (m * k) % q = 1 := pow_mod_mul hm hq
      rw [Nat.mul_pow, Nat.mul_mod, Nat.mul_comm m k, pow_mod_mul ha.one hq, Nat.one_mul, Nat.mod_mod] at h3
      have := hb.dvd hq h3
      exact Nat.Coprime.dvd_of_dvd_mul_left (by rw [Nat.Coprime, Nat.gcd_comm]; exact hg) this
    have e2 : k ∣ m := by
      have h3 : (a * b) ^ (m * l) % q = 1 := pow_mod_mul hm hq
      rw [Nat.mul_pow, Nat.mul_mod, Nat.mul_comm m l, pow_mod_mul hb.one hq, Nat.mul_one, Nat.mod_mod] at h3
      have := ha.dvd hq h3
      exact Nat.Coprime.dvd_of_dvd_mul_left hg this
    have := Nat.le_of_dvd (by omega) (Nat.Coprime.mul_dvd_of_dvd_of_dvd hg e2 e1)
    omega

/-! polynomials: how many roots -/

def Low_ : Nat → (Int → Int) → Prop
  | 0, f => ∀ x, f x = 0
  | d + 1, f => ∃ (c : Int) (g : Int → Int), Low_ d g ∧ ∀ x, f x = c + x * g x
def Mon : Nat → (Int → Int) → Prop
  | 0, f => ∀ x, f x = 1
  | d + 1, f => ∃ (c : Int) (g : Int → Int), Mon d g ∧ ∀ x, f x = c + x * g x

theorem Low_.mul (r : Int) : ∀ d f, Low_ d f → Low_ d (fun x => r * f x) := by
  intro d
  induction d with
  | zero => intro f h x; show r * f x = 0; rw [h x]; simp
  | succ d ih =>
    rintro f ⟨c, g, hg, hf⟩
    refine ⟨r * c, _, ih g hg, fun x => ?_⟩
    show r * f x = r * c + x * (r * g x)
    rw [hf x, Int.mul_add, Int.mul_left_comm]

theorem Mon.low : ∀ d f, Mon d f → Low_ (d + 1) f := by
  intro d
  induction d with
  | zero => intro f h; exact ⟨1, fun _ => 0, fun _ => rfl, fun x => by rw [h x]; simp⟩
  | succ d ih => rintro f ⟨c, g, hg, hf⟩; exact ⟨c, g, ih g hg, hf⟩

theorem Mon.add : ∀ d f k, Mon d f → Low_ d k → Mon d (fun x => f x + k x) := by
  intro d
  induction d with
  | zero => intro f k hf hk x; show f x + k x = 1; rw [hf x, hk x]; simp
  | succ d ih =>
    rintro f k ⟨c, g, hg, hf⟩ ⟨c', g', hg', hk⟩
    refine ⟨c + c', _, ih g g' hg hg', fun x => ?_⟩
    show f x + k x = c + c' + x * (g x + g' x)
    rw [hf x, hk x, Int.mul_add]; omega

theorem Mon.div (r : Int) : ∀ d f, Mon (d + 1) f → ∃ g, Mon d g ∧ ∀ x, f x - f r = (x - r) * g x := by
  intro d
  induction d with
  | zero =>
    rintro f ⟨c, h, hh, hf⟩
    refine ⟨h, hh, fun x => ?_⟩
    rw [hf x, hf r, hh x, hh r]; omega
  | succ d ih =>
    rintro f ⟨c, h, hh, hf⟩
    obtain ⟨k, hk, hx⟩ := ih h hh
    refine ⟨_, Mon.add (d + 1) h _ hh (Low_.mul r (d + 1) k (Mon.low d k hk)), fun x => ?_⟩
    show f x - f r = (x - r) * (h x + r * k x)
    rw [hf x, hf r, Int.mul_add, Int.mul_left_comm (x - r), ← hx x, Int.mul_sub, Int.sub_mul]
    omega

theorem Pr.dvd_mul_int {q : Nat} (hq : Pr q) {a b : Int} (h : (q : Int) ∣ a * b) : (q : Int) ∣ a ∨ (q : Int) ∣ b := by
  rw [Int.ofNat_dvd_left, Int.natAbs_mul] at h
  rcases hq.dvd_mul h with h | h
  · exact .inl (Int.ofNat_dvd_left.2 h)
  · exact .inr (Int.ofNat_dvd_left.2 h)

theorem roots_le {q : Nat} (hq : Pr q) : ∀ d f, Mon d f → ∀ rs : List Int, rs.Pairwise (fun a b => ¬ (q : Int) ∣ b - a) → (∀ r, r ∈ rs → (q : Int) ∣ f r) → rs.length ≤ d := by
  intro d
  induction d with
  | zero =>
    intro f hf rs hp hr
    match rs with
    | [] => exact Nat.le_refl _
    | r :: rs =>
      exfalso
      have := hr r (by simp)
      rw [hf r] at this
      have h1 := Int.le_of_dvd (by omega) this
      have := hq.1
      omega
  | succ d ih =>
    intro f hf rs hp hr
    match rs, hp, hr with
    | [], _, _ => exact Nat.zero_le _
    | r :: rs, hp, hr =>
      rw [List.pairwise_cons] at hp
      obtain ⟨g, hg, hx⟩ := hf.div r
      have := ih g hg rs hp.2 fun s hs => by
        have h1 : (q : Int) ∣ (s - r) * g s := by
          rw [← hx s]; exact Int.dvd_sub (hr s (by simp [hs])) (hr r (by simp))
        rcases hq.dvd_mul_int h1 with h | h
        · exact absurd h (hp.1 s hs)
        · exact h
      simp; omega

theorem mon_pow : ∀ d, Mon d (fun x => x ^ d) := by
  intro d
  induction d with
  | zero => intro x; exact Int.pow_zero x
  | succ d ih => exact ⟨0, _, ih, fun x => by show x ^ (d + 1) = 0 + x * x ^ d; rw [Int.pow_succ, Int.mul_comm]; omega⟩

/-- not all numbers have a power m below q - 1 that is 1 -/
theorem exists_not_one {q m : Nat} (hq : Pr q) (h1 : 1 ≤ m) (h2 : m < q - 1) : ∃ a, 1 ≤ a ∧ a < q ∧ a ^ m % q ≠ 1 := by
  apply Classical.byContradiction
  intro hno
  have hall : ∀ a, 1 ≤ a → a < q → a ^ m % q = 1 := fun a ha1 ha2 => Classical.byContradiction fun h => hno ⟨a, ha1, ha2, h⟩
  obtain ⟨d, rfl⟩ : ∃ d, m = d + 1 := ⟨m - 1, by omega⟩
  have hm : Mon (d + 1) (fun x => -1 + x * x ^ d) := ⟨-1, _, mon_pow d, fun _ => rfl⟩
  have := roots_le hq (d + 1) _ hm ((upto (q - 1)).map fun i : Nat => (i : Int)) ?_ ?_
  · simp [len_upto] at this; omega
  · rw [List.pairwise_map]
    have hn := nodup_upto (q - 1)
    refine List.Pairwise.imp_of_mem ?_ hn
    intro a b ha hb hne hd
    rw [mem_upto] at ha hb
    rcases Nat.lt_or_ge a b with hlt | hge
    · have e : ((b : Int) - (a : Int)) = ((b - a : Nat) : Int) := by omega
      rw [e, Int.natCast_dvd_natCast] at hd
      exact not_dvd_small (by omega) (by omega) hd
    · have e : ((b : Int) - (a : Int)) = -((a - b : Nat) : Int) := by omega
      rw [e, Int.dvd_neg, Int.natCast_dvd_natCast] at hd
      exact not_dvd_small (by omega) (by omega) hd
  · intro r hr
    obtain ⟨a, ha, rfl⟩ := List.mem_map.1 hr
    rw [mem_upto] at ha
    have h3 := hall a ha.1 (by omega)
    have h4 : q ∣ a ^ (d + 1) - 1 := by
      have hp : 1 ≤ a ^ (d + 1) := Nat.pow_pos (by omega)
      refine (mod_iff_sub hp).1 ?_
      rw [h3]; exact Nat.mod_eq_of_lt (by have := hq.1; omega)
    have hp : 1 ≤ a ^ (d + 1) := Nat.pow_pos (by omega)
    show (q : Int) ∣ -1 + (a : Int) * (a : Int) ^ d
    have e : -1 + (a : Int) * (a : Int) ^ d = ((a ^ (d + 1) - 1 : Nat) : Int) := by
      rw [Int.natCast_sub hp, Int.natCast_pow, Int.pow_succ, Int.mul_comm]; omega
    rw [e]; exact Int.natCast_dvd_natCast.2 h4

/-! a generator -/

theorem exists_ord_prime_pow {q p e : Nat} (hq : Pr q) (hp : Pr p) (he : 1 ≤ e) (hd : p ^ e ∣ q - 1) : ∃ b, IsOrd q b (p ^ e) := by
  have hq2 := hq.1
  have hp2 := hp.1
  obtain ⟨c, hc⟩ := hd
  have hpe : 1 ≤ p ^ e := Nat.pow_pos (by omega)
  by_cases hq1 : q = 2
  · -- q - 1 = 1: no such power
    subst hq1
    exfalso
    have : p ^ 1 ≤ p ^ e := Nat.pow_le_pow_right (by omega) he
    rw [Nat.pow_one] at this
    have hc0 : 0 < c := by
      apply Nat.pos_of_ne_zero
      intro h
      subst h
      simp at hc
    have hc1 : p ^ e ≤ p ^ e * c := Nat.le_mul_of_pos_right _ hc0
    omega
  obtain ⟨s, rfl⟩ : ∃ s, e = s + 1 := ⟨e - 1, by omega⟩
  have hqp : (q - 1) / p = p ^ s * c := by
    rw [hc, Nat.pow_succ, Nat.mul_comm (p ^ s) p, Nat.mul_assoc, Nat.mul_div_cancel_left _ (by omega)]
  have hpos : 1 ≤ p ^ s * c := by
    apply Nat.one_le_iff_ne_zero.2
    intro h0
    have : q - 1 = p * (p ^ s * c) := by rw [hc, Nat.pow_succ, Nat.mul_comm (p ^ s) p, Nat.mul_assoc]
    rw [h0] at this; omega
  have hlt : p ^ s * c < q - 1 := by
    have h1 : q - 1 = p * (p ^ s * c) := by rw [hc, Nat.pow_succ, Nat.mul_comm (p ^ s) p, Nat.mul_assoc]
    have h2 := Nat.mul_le_mul_right (p ^ s * c) hp2
    omega
  obtain ⟨a, ha1, ha2, ha3⟩ := exists_not_one hq hpos hlt
  have hf := fermat hq (not_dvd_small ha1 ha2)
  refine ⟨a ^ c, ord_of_primes hq2 hpe ?_ fun r hr hrd => ?_⟩
  · rw [← Nat.pow_mul, Nat.mul_comm, ← hc]; exact hf
  · have : r = p := hr.eq_of_dvd hp (hr.dvd_pow _ hrd)
    subst this
    rw [← Nat.pow_mul, Nat.pow_succ, Nat.mul_div_cancel _ (by omega), Nat.mul_comm]
    exact ha3

theorem coprime_pow_prodF {x : Nat × Nat} {l : List (Nat × Nat)} (hx : Pr x.1) (hl : ∀ y, y ∈ l → Pr y.1 ∧ y.1 ≠ x.1) : Nat.gcd (x.1 ^ x.2) (prodF l) = 1 := by
  have h1 : Nat.gcd x.1 (prodF l) = 1 := by
    rcases hx.of_dvd (Nat.gcd_dvd_left x.1 (prodF l)) with h | h
    · exact h
    · exfalso
      refine not_dvd_prodF hx l hl ?_
      have := Nat.gcd_dvd_right x.1 (prodF l)
      rwa [h] at this
  exact Nat.Coprime.pow_left _ h1

theorem exists_ord_prodF {q : Nat} (hq : Pr q) : ∀ l : List (Nat × Nat), (∀ x, x ∈ l → Pr x.1 ∧ 1 ≤ x.2) → l.Pairwise (fun a b => a.1 < b.1) → prodF l ∣ q - 1 → ∃ b, IsOrd q b (prodF l) := by
  intro l
  induction l with
  | nil => intro _ _ _; exact ⟨1, ⟨by simp [prodF], by have := hq.1; simp only [prodF, Nat.pow_one]; exact Nat.mod_eq_of_lt (by omega), fun m h1 h2 => by simp [prodF] at h2; omega⟩⟩
  | cons x l ih =>
    intro h hr hd
    rw [List.pairwise_cons] at hr
    obtain ⟨b, hb⟩ := ih (fun y hy => h y (by simp [hy])) hr.2 (Nat.dvd_trans (Nat.dvd_mul_left _ _) hd)
    obtain ⟨a, ha⟩ := exists_ord_prime_pow hq (h x (by simp)).1 (h x (by simp)).2 (Nat.dvd_trans (Nat.dvd_mul_right _ _) hd)
    refine ⟨a * b, ord_mul hq.1 ha hb (coprime_pow_prodF (h x (by simp)).1 fun y hy => ⟨(h y (by simp [hy])).1, ?_⟩)⟩
    have := hr.1 y hy
    omega

/-- there is a number whose order is q - 1, from 1 to q - 1 -/
theorem exists_gen {q : Nat} (hq : Pr q) {l : List (Nat × Nat)} (hl : IsFac (q - 1) l) : ∃ g, 1 ≤ g ∧ g < q ∧ IsOrd q g (q - 1) := by
  obtain ⟨b, hb⟩ := exists_ord_prodF hq l (fun x hx => ⟨hl.prime x hx, hl.pos x hx⟩) hl.rise (by rw [hl.prod]; exact Nat.dvd_refl _)
  rw [hl.prod] at hb
  have hq2 := hq.1
  have hlt := Nat.mod_lt b (show 0 < q by omega)
  refine ⟨b % q, ?_, hlt, hb.pos, by rw [← Nat.pow_mod]; exact hb.one, fun m h1 h2 => by rw [← Nat.pow_mod]; exact hb.least m h1 h2⟩
  apply Nat.one_le_iff_ne_zero.2
  intro h0
  have := hb.one
  rw [Nat.pow_mod, h0, Nat.zero_pow hb.pos] at this
  simp at this

end Go.Proofs.YtniibghbhbigaaaDoor
