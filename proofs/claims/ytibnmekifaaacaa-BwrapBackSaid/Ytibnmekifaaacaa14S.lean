/- Base64 in plain words: digits, bits, groups; no program. Conditions: each lemma bears its own. -/
import Derived.Test.YtibnmekifaaacaaKit
namespace Go.Proofs.Ytibnmekifaaacaa

/-- the digit of a number below 64 -/
def d64 (k : Int) : Int := if k < 26 then 65 + k else if k < 52 then 71 + k else if k < 62 then k - 4 else if k = 62 then 43 else 47
def digL (n : Int) : Int := d64 (n % 64)
def isD (c : Int) : Bool := decide ((65 ≤ c ∧ c ≤ 90) ∨ (97 ≤ c ∧ c ≤ 122) ∨ (48 ≤ c ∧ c ≤ 57) ∨ c = 43 ∨ c = 47)
def valL (c : Int) : Int := if 65 ≤ c ∧ c ≤ 90 then c - 65 else if 97 ≤ c ∧ c ≤ 122 then c - 71 else if 48 ≤ c ∧ c ≤ 57 then c + 4 else if c = 43 then 62 else if c = 47 then 63 else 0
theorem d64_val {k : Int} (h : 0 ≤ k ∧ k < 64) : isD (d64 k) = true ∧ valL (d64 k) = k ∧ 43 ≤ d64 k ∧ d64 k ≤ 122 ∧ d64 k ≠ 61 := by
  unfold d64
  repeat' split
  all_goals (refine ⟨by simp [isD] <;> omega, ?_, by omega, by omega, by omega⟩; unfold valL; repeat' split) 
  all_goals omega
theorem val_d64 {c : Int} (h : isD c = true) : d64 (valL c) = c ∧ 0 ≤ valL c ∧ valL c < 64 := by
  simp [isD] at h
  unfold valL d64
  repeat' split
  all_goals omega
theorem val_no {c : Int} (h : isD c = false) : valL c = 0 := by
  simp [isD] at h
  unfold valL
  repeat' split
  all_goals omega
theorem val_bd (c : Int) : 0 ≤ valL c ∧ valL c < 64 := by
  cases h : isD c
  · rw [val_no h]; omega
  · exact (val_d64 h).2
theorem digL_wf (n : Int) : (Lit.int .u8 (digL n)).wf = true := by
  have := d64_val (k := n % 64) (by omega)
  rw [wf_u8]; unfold digL; omega

/-- a number's bits, the highest first -/
def byteBits (x : Int) : List Int := [x / 128 % 2, x / 64 % 2, x / 32 % 2, x / 16 % 2, x / 8 % 2, x / 4 % 2, x / 2 % 2, x % 2]
def sixBits (x : Int) : List Int := [x / 32 % 2, x / 16 % 2, x / 8 % 2, x / 4 % 2, x / 2 % 2, x % 2]
def bitsL (xs : List Int) : List Int := xs.flatMap byteBits
def numL (l : List Int) : Int := l.foldl (fun n b => 2 * n + b) 0
def isBits (l : List Int) : Prop := ∀ x ∈ l, x = 0 ∨ x = 1
theorem bits_byte (x : Int) : isBits (byteBits x) := by unfold isBits byteBits; intro y hy; simp at hy; omega
theorem bits_six (x : Int) : isBits (sixBits x) := by unfold isBits sixBits; intro y hy; simp at hy; omega
theorem bits_append {a b : List Int} (ha : isBits a) (hb : isBits b) : isBits (a ++ b) := by
  intro x hx; rcases List.mem_append.1 hx with h | h
  · exact ha x h
  · exact hb x h
theorem bits_flat {f : Int → List Int} (h : ∀ x, isBits (f x)) (xs : List Int) : isBits (xs.flatMap f) := by
  intro y hy; rw [List.mem_flatMap] at hy; obtain ⟨x, _, hx⟩ := hy; exact h x y hx
theorem bits_wf {l : List Int} (h : isBits l) : ∀ x ∈ l, (Lit.int .i64 x).wf = true := by
  intro x hx; rw [wf_i64]; have := h x hx; omega
theorem foldl_num (l : List Int) (m : Int) : l.foldl (fun n b => 2 * n + b) m = m * 2 ^ l.length + numL l := by
  induction l generalizing m with
  | nil => simp [numL]
  | cons b r ih =>
    simp only [List.foldl_cons, numL, List.length_cons]
    rw [ih (2 * m + b), ih (2 * 0 + b)]
    rw [Int.pow_succ]
    simp only [Int.add_mul, Int.mul_zero, Int.zero_add]
    rw [show 2 * m * 2 ^ r.length = m * (2 ^ r.length * 2) from by rw [Int.mul_comm 2 m, Int.mul_assoc, Int.mul_comm 2]]
    omega
theorem num_bd {l : List Int} (h : isBits l) : 0 ≤ numL l ∧ numL l < 2 ^ l.length := by
  induction l with
  | nil => simp [numL]
  | cons b r ih =>
    have hr := ih fun x hx => h x (by simp [hx])
    have hb := h b (by simp)
    have e : numL (b :: r) = b * 2 ^ r.length + numL r := by
      simp only [numL, List.foldl_cons]
      rw [foldl_num]; simp [numL]
    rw [e, List.length_cons, Int.pow_succ]
    rcases hb with rfl | rfl <;> omega
theorem num_big {l : List Int} (h : isBits l) (hl : l.length ≤ 40) : 0 ≤ numL l ∧ numL l ≤ 1099511627776 := by
  have := num_bd h
  have h2 : (2 : Int) ^ l.length ≤ 2 ^ 40 := by
    exact_mod_cast Nat.pow_le_pow_right (by omega : 0 < 2) hl
  have h3 : (2 : Int) ^ 40 = 1099511627776 := by decide
  omega
theorem num_snoc (l : List Int) (b : Int) : numL (l ++ [b]) = 2 * numL l + b := by simp [numL, List.foldl_append]

/-- groups of six bits, each a digit -/
def chunk6 : List Int → List Int
  | a :: b :: c :: d :: e :: f :: r => digL (numL [a, b, c, d, e, f]) :: chunk6 r
  | _ => []
/-- the code without what fills up: three octets, four digits -/
def bare3 : List Int → List Int
  | a :: b :: c :: r => digL (a / 4) :: digL (a % 4 * 16 + b / 16) :: digL (b % 16 * 4 + c / 64) :: digL (c % 64) :: bare3 r
  | [a, b] => [digL (a / 4), digL (a % 4 * 16 + b / 16), digL (b % 16 * 4)]
  | [a] => [digL (a / 4), digL (a % 4 * 16)]
  | [] => []
def pad6 (l : List Int) : List Int := l ++ List.replicate ((6 - l.length % 6) % 6) 0
/-- what holds of 0, 1, .., 255 holds of each octet -/
theorem byte_all (p : Int → Bool) (h : (List.range 256).all (fun n => p (n : Int)) = true) {x : Int} (h0 : 0 ≤ x ∧ x ≤ 255) : p x = true := by
  rw [List.all_eq_true] at h
  have := h x.toNat (by simp; omega)
  rwa [show ((x.toNat : Nat) : Int) = x from by omega] at this
theorem byte_parts {x : Int} (h : 0 ≤ x ∧ x ≤ 255) :
    32 * (x / 128 % 2) + 16 * (x / 64 % 2) + 8 * (x / 32 % 2) + 4 * (x / 16 % 2) + 2 * (x / 8 % 2) + x / 4 % 2 = x / 4 ∧ 2 * (x / 2 % 2) + x % 2 = x % 4 ∧
    8 * (x / 128 % 2) + 4 * (x / 64 % 2) + 2 * (x / 32 % 2) + x / 16 % 2 = x / 16 ∧ 8 * (x / 8 % 2) + 4 * (x / 4 % 2) + 2 * (x / 2 % 2) + x % 2 = x % 16 ∧
    2 * (x / 128 % 2) + x / 64 % 2 = x / 64 ∧ 32 * (x / 32 % 2) + 16 * (x / 16 % 2) + 8 * (x / 8 % 2) + 4 * (x / 4 % 2) + 2 * (x / 2 % 2) + x % 2 = x % 64 := by
  have := byte_all (fun x => decide (32 * (x / 128 % 2) + 16 * (x / 64 % 2) + 8 * (x / 32 % 2) + 4 * (x / 16 % 2) + 2 * (x / 8 % 2) + x / 4 % 2 = x / 4 ∧ 2 * (x / 2 % 2) + x % 2 = x % 4 ∧
    8 * (x / 128 % 2) + 4 * (x / 64 % 2) + 2 * (x / 32 % 2) + x / 16 % 2 = x / 16 ∧ 8 * (x / 8 % 2) + 4 * (x / 4 % 2) + 2 * (x / 2 % 2) + x % 2 = x % 16 ∧
    2 * (x / 128 % 2) + x / 64 % 2 = x / 64 ∧ 32 * (x / 32 % 2) + 16 * (x / 16 % 2) + 8 * (x / 8 % 2) + 4 * (x / 4 % 2) + 2 * (x / 2 % 2) + x % 2 = x % 64)) (by decide +kernel) h
  simpa using this
theorem cons4 {a b c d a' b' c' d' : Int} {r : List Int} (h1 : a = a') (h2 : b = b') (h3 : c = c') (h4 : d = d') : a :: b :: c :: d :: r = a' :: b' :: c' :: d' :: r := by rw [h1, h2, h3, h4]
theorem cons3 {a b c a' b' c' : Int} {r : List Int} (h1 : a = a') (h2 : b = b') (h3 : c = c') : a :: b :: c :: r = a' :: b' :: c' :: r := by rw [h1, h2, h3]
theorem cons2 {a b a' b' : Int} {r : List Int} (h1 : a = a') (h2 : b = b') : a :: b :: r = a' :: b' :: r := by rw [h1, h2]
theorem six_3 {a b c : Int} (ha : 0 ≤ a ∧ a ≤ 255) (hb : 0 ≤ b ∧ b ≤ 255) (hc : 0 ≤ c ∧ c ≤ 255) (r : List Int) :
    chunk6 (byteBits a ++ (byteBits b ++ (byteBits c ++ r))) = digL (a / 4) :: digL (a % 4 * 16 + b / 16) :: digL (b % 16 * 4 + c / 64) :: digL (c % 64) :: chunk6 r := by
  have pa := byte_parts ha
  have pb := byte_parts hb
  have pc := byte_parts hc
  simp only [byteBits, List.cons_append, List.nil_append, chunk6, numL, List.foldl_cons, List.foldl_nil]
  obtain ⟨p1, p2, p3, p4, p5, p6⟩ := pa
  obtain ⟨q1, q2, q3, q4, q5, q6⟩ := pb
  obtain ⟨r1, r2, r3, r4, r5, r6⟩ := pc
  refine cons4 ?_ ?_ ?_ ?_ <;> (congr 1; omega)
theorem bitsL_length (xs : List Int) : (bitsL xs).length = 8 * xs.length := by
  induction xs with
  | nil => rfl
  | cons x r ih => simp only [bitsL, List.flatMap_cons, List.length_append, List.length_cons] at ih ⊢; rw [ih]; simp [byteBits]; omega
theorem bare_bits : ∀ (xs : List Int), (∀ x ∈ xs, 0 ≤ x ∧ x ≤ 255) → chunk6 (pad6 (bitsL xs)) = bare3 xs
  | [], _ => rfl
  | [a], h => by
    have ha := h a (by simp)
    simp only [pad6, bitsL, List.flatMap_cons, List.flatMap_nil, List.append_nil, byteBits, List.length_cons, List.length_nil, List.cons_append, List.nil_append]
    simp only [show (6 - (0 + 1 + 1 + 1 + 1 + 1 + 1 + 1 + 1) % 6) % 6 = 4 from rfl, List.replicate, chunk6, numL, List.foldl_cons, List.foldl_nil, bare3]
    have pa := byte_parts ha
    obtain ⟨p1, p2, p3, p4, p5, p6⟩ := pa
    refine cons2 ?_ ?_ <;> (congr 1; omega)
  | [a, b], h => by
    have ha := h a (by simp)
    have hb := h b (by simp)
    simp only [pad6, bitsL, List.flatMap_cons, List.flatMap_nil, List.append_nil, byteBits, List.length_cons, List.length_nil, List.cons_append, List.nil_append]
    simp only [show (6 - (0 + 1 + 1 + 1 + 1 + 1 + 1 + 1 + 1 + 1 + 1 + 1 + 1 + 1 + 1 + 1 + 1) % 6) % 6 = 2 from rfl, List.replicate, chunk6, numL, List.foldl_cons, List.foldl_nil, bare3]
    have pa := byte_parts ha
    have pb := byte_parts hb
    obtain ⟨p1, p2, p3, p4, p5, p6⟩ := pa
    obtain ⟨q1, q2, q3, q4, q5, q6⟩ := pb
    refine cons3 ?_ ?_ ?_ <;> (congr 1; omega)
  | a :: b :: c :: r, h => by
    have e : pad6 (bitsL (a :: b :: c :: r)) = byteBits a ++ (byteBits b ++ (byteBits c ++ pad6 (bitsL r))) := by
      have hl : (bitsL (a :: b :: c :: r)).length % 6 = (bitsL r).length % 6 := by simp only [bitsL_length, List.length_cons]; omega
      simp only [pad6, hl]
      simp only [bitsL, List.flatMap_cons, List.append_assoc]
    rw [e, six_3 (h a (by simp)) (h b (by simp)) (h c (by simp)), bare3, bare_bits r fun x hx => h x (by simp [hx])]
end Go.Proofs.Ytibnmekifaaacaa
