/- Layer 44 (uue) in plain words: lines of sixes, files; no program. Conditions: each lemma bears its own. -/
import Derived.Test.Ytlmkhjegckgmcaa14S
namespace Go.Proofs.Ytlmkhjegckgmcaa

def digU (n : Int) : Int := if n % 64 = 0 then 96 else n % 64 + 32
def okU (c : Int) : Bool := decide (32 ≤ c ∧ c ≤ 96)
def valU (c : Int) : Int := (c - 32) % 64
theorem digU_bd (n : Int) : 33 ≤ digU n ∧ digU n ≤ 96 := by unfold digU; split <;> omega
theorem digU_wf (n : Int) : (Lit.int .u8 (digU n)).wf = true := by have := digU_bd n; rw [wf_u8]; omega
theorem val_digU (n : Int) : valU (digU n) = n % 64 ∧ okU (digU n) = true := by
  have h := digU_bd n
  refine ⟨?_, by unfold okU; rw [decide_eq_true_iff]; omega⟩
  unfold valU digU; split <;> omega
theorem digU_mod {a b : Int} (h : a % 64 = b % 64) : digU a = digU b := by unfold digU; rw [h]

def quad (a b c : Int) : List Int := [digU (a / 4), digU (a % 4 * 16 + b / 16), digU (b % 16 * 4 + c / 64), digU (c % 64)]
def quadH (h : Int) : List Int := [digU (h / 262144), digU (h / 4096), digU (h / 64), digU h]
theorem quadH_eq {a b c : Int} (ha : 0 ≤ a ∧ a ≤ 255) (hb : 0 ≤ b ∧ b ≤ 255) (hc : 0 ≤ c ∧ c ≤ 255) : quadH ((a * 256 + b) * 256 + c) = quad a b c := by
  unfold quadH quad
  refine cons4 (digU_mod ?_) (digU_mod ?_) (digU_mod ?_) (digU_mod ?_) <;> omega
def grp : List Int → List Int
  | a :: b :: c :: r => quad a b c ++ grp r
  | [a, b] => quad a b 0
  | [a] => quad a 0 0
  | [] => []
theorem grp_len : ∀ s : List Int, ((grp s).length : Int) = ((s.length : Int) + 2) / 3 * 4
  | [] => by simp [grp]
  | [a] => by simp [grp, quad]
  | [a, b] => by simp [grp, quad]
  | a :: b :: c :: r => by
    have := grp_len r
    simp only [grp, quad, List.length_append, List.length_cons, List.length_nil]
    push_cast; omega
/-- the groups as the program lays them: what is held, and how many octets it is of -/
def grpS : List Int → Int → Int → List Int
  | [], h, m => if m = 0 then [] else if m = 1 then quadH (h * 256 * 256) else quadH (h * 256)
  | x :: r, h, m => if m = 2 then quadH (h * 256 + x) ++ grpS r 0 0 else grpS r (h * 256 + x) (m + 1)
theorem grpS_eq : ∀ s : List Int, (∀ x ∈ s, 0 ≤ x ∧ x ≤ 255) → grpS s 0 0 = grp s
  | [], _ => rfl
  | [a], h => by
    have e := quadH_eq (h a (by simp)) (b := 0) (c := 0) (by omega) (by omega)
    simp only [grpS, grp]; simpa using e
  | [a, b], h => by
    have e := quadH_eq (h a (by simp)) (h b (by simp)) (c := 0) (by omega)
    simp only [grpS, grp]; simpa using e
  | a :: b :: c :: r, h => by
    have e := quadH_eq (h a (by simp)) (h b (by simp)) (h c (by simp))
    have ih := grpS_eq r fun x hx => h x (by simp [hx])
    simp only [grpS, grp]
    simp only [show ¬ (0 : Int) = 2 from by decide, if_false, Int.zero_mul, Int.zero_add, show ¬ (1 : Int) = 2 from by decide, show (1 : Int) + 1 = 2 from rfl, if_true]
    rw [e, ih]
def lineU (s : List Int) : List Int := digU ((s.take 45).length : Int) :: grp (s.take 45)

/-- groups of six bits, each a digit -/
def chunkU : List Int → List Int
  | a :: b :: c :: d :: e :: f :: r => digU (numL [a, b, c, d, e, f]) :: chunkU r
  | _ => []
def pad24 (l : List Int) : List Int := l ++ List.replicate ((24 - l.length % 24) % 24) 0
theorem chunkU_3 {a b c : Int} (ha : 0 ≤ a ∧ a ≤ 255) (hb : 0 ≤ b ∧ b ≤ 255) (hc : 0 ≤ c ∧ c ≤ 255) (r : List Int) :
    chunkU (byteBits a ++ (byteBits b ++ (byteBits c ++ r))) = quad a b c ++ chunkU r := by
  have pa := byte_parts ha
  have pb := byte_parts hb
  have pc := byte_parts hc
  simp only [byteBits, List.cons_append, List.nil_append, chunkU, numL, List.foldl_cons, List.foldl_nil, quad]
  obtain ⟨p1, p2, p3, p4, p5, p6⟩ := pa
  obtain ⟨q1, q2, q3, q4, q5, q6⟩ := pb
  obtain ⟨r1, r2, r3, r4, r5, r6⟩ := pc
  refine cons4 ?_ ?_ ?_ ?_ <;> (congr 1; omega)
theorem bits_zero : byteBits 0 = [0, 0, 0, 0, 0, 0, 0, 0] := by decide
theorem chunk_bits : ∀ (xs : List Int), (∀ x ∈ xs, 0 ≤ x ∧ x ≤ 255) → chunkU (pad24 (bitsL xs)) = grp xs
  | [], _ => rfl
  | [a], h => by
    have e := chunkU_3 (h a (by simp)) (b := 0) (c := 0) (by omega) (by omega) []
    have e2 : pad24 (bitsL [a]) = byteBits a ++ (byteBits 0 ++ (byteBits 0 ++ [])) := by rw [bits_zero]; rfl
    rw [e2, e]; simp [grp, chunkU]
  | [a, b], h => by
    have e := chunkU_3 (h a (by simp)) (h b (by simp)) (c := 0) (by omega) []
    have e2 : pad24 (bitsL [a, b]) = byteBits a ++ (byteBits b ++ (byteBits 0 ++ [])) := by rw [bits_zero]; rfl
    rw [e2, e]; simp [grp, chunkU]
  | a :: b :: c :: r, h => by
    have e : pad24 (bitsL (a :: b :: c :: r)) = byteBits a ++ (byteBits b ++ (byteBits c ++ pad24 (bitsL r))) := by
      have hl : (bitsL (a :: b :: c :: r)).length % 24 = (bitsL r).length % 24 := by simp only [bitsL_length, List.length_cons]; omega
      simp only [pad24, hl]
      simp only [bitsL, List.flatMap_cons, List.append_assoc]
    rw [e, chunkU_3 (h a (by simp)) (h b (by simp)) (h c (by simp)), grp, chunk_bits r fun x hx => h x (by simp [hx])]

/-- four numbers of six bits are three octets -/
def decU : List Int → List Int
  | a :: b :: c :: d :: r => (a * 4 + b / 16) % 256 :: (b % 16 * 16 + c / 4) % 256 :: (c % 4 * 64 + d) % 256 :: decU r
  | _ => []
theorem dec_x {a b c d : Int} (ha : 0 ≤ a ∧ a < 64) (hb : 0 ≤ b ∧ b < 64) (hc : 0 ≤ c ∧ c < 64) (hd : 0 ≤ d ∧ d < 64) :
    (a * 262144 + b * 4096 + c * 64 + d) / 65536 = (a * 4 + b / 16) % 256 ∧ (a * 262144 + b * 4096 + c * 64 + d) / 256 % 256 = (b % 16 * 16 + c / 4) % 256 ∧ (a * 262144 + b * 4096 + c * 64 + d) % 256 = (c % 4 * 64 + d) % 256 := by
  refine ⟨?_, ?_, ?_⟩ <;> omega
theorem decU_rng : ∀ l : List Int, ∀ x ∈ decU l, 0 ≤ x ∧ x ≤ 255
  | a :: b :: c :: d :: r, x, hx => by
    simp only [decU, List.mem_cons] at hx
    rcases hx with rfl | rfl | rfl | hx
    · omega
    · omega
    · omega
    · exact decU_rng r x hx
  | [], _, hx => by cases hx
  | [_], _, hx => by cases hx
  | [_, _], _, hx => by cases hx
  | [_, _, _], _, hx => by cases hx
theorem decU_len : ∀ l : List Int, ((decU l).length : Int) = (l.length : Int) / 4 * 3
  | [] => rfl
  | [_] => by simp only [decU, List.length_cons, List.length_nil]; decide
  | [_, _] => by simp only [decU, List.length_cons, List.length_nil]; decide
  | [_, _, _] => by simp only [decU, List.length_cons, List.length_nil]; decide
  | a :: b :: c :: d :: r => by
    have := decU_len r
    simp only [decU, List.length_cons]; push_cast; omega
theorem dec_quad {a b c : Int} (ha : 0 ≤ a ∧ a ≤ 255) (hb : 0 ≤ b ∧ b ≤ 255) (hc : 0 ≤ c ∧ c ≤ 255) (r : List Int) : decU ((quad a b c).map valU ++ r) = a :: b :: c :: decU r := by
  simp only [quad, List.map_cons, List.map_nil, List.cons_append, List.nil_append, (val_digU _).1, decU]
  refine cons3 ?_ ?_ ?_ <;> omega
theorem dec_grp : ∀ s : List Int, (∀ x ∈ s, 0 ≤ x ∧ x ≤ 255) → (decU ((grp s).map valU)).take s.length = s
  | [], _ => rfl
  | [a], h => by
    have e := dec_quad (h a (by simp)) (b := 0) (c := 0) (by omega) (by omega) []
    rw [List.append_nil] at e
    rw [grp, e]; rfl
  | [a, b], h => by
    have e := dec_quad (h a (by simp)) (h b (by simp)) (c := 0) (by omega) []
    rw [List.append_nil] at e
    rw [grp, e]; rfl
  | a :: b :: c :: r, h => by
    have e := dec_quad (h a (by simp)) (h b (by simp)) (h c (by simp)) ((grp r).map valU)
    have ih := dec_grp r fun x hx => h x (by simp [hx])
    rw [grp, List.map_append, e]
    simp only [List.length_cons, List.take_succ_cons, ih]

/-- what a line is read as, and the error -/
def needU (l : List Int) : Int := (valU (l.getD 0 0) + 2) / 3 * 4
def fromU (l : List Int) : List Int × Int :=
  if l = [] then ([], 4) else if l.all okU = false ∨ 45 < valU (l.getD 0 0) then ([], 3) else if (l.length : Int) - 1 < needU l then ([], 4) else if needU l < (l.length : Int) - 1 then ([], 3)
  else ((decU ((l.drop 1).map valU)).take (valU (l.getD 0 0)).toNat, 0)
theorem grp_ok : ∀ s : List Int, (grp s).all okU = true
  | [] => rfl
  | [a] => by simp [grp, quad, val_digU]
  | [a, b] => by simp [grp, quad, val_digU]
  | a :: b :: c :: r => by
    have := grp_ok r
    rw [grp, List.all_append, this]; simp [quad, val_digU]
theorem from_line (s : List Int) (h : ∀ x ∈ s, 0 ≤ x ∧ x ≤ 255) : fromU (lineU s) = (s.take 45, 0) := by
  have hl : (s.take 45).length ≤ 45 := by simp; omega
  have hv : valU (digU ((s.take 45).length : Int)) = ((s.take 45).length : Int) := by rw [(val_digU _).1]; omega
  have hg := grp_len (s.take 45)
  have hd := dec_grp (s.take 45) fun x hx => h x (List.mem_of_mem_take hx)
  have hn : needU (lineU s) = ((grp (s.take 45)).length : Int) := by
    unfold needU lineU
    rw [show (digU ((s.take 45).length : Int) :: grp (s.take 45)).getD 0 0 = digU ((s.take 45).length : Int) from rfl, hv, hg]
  have hlen : ((lineU s).length : Int) - 1 = ((grp (s.take 45)).length : Int) := by unfold lineU; simp
  have hall : (lineU s).all okU = true := by unfold lineU; rw [List.all_cons, grp_ok, (val_digU _).2]; rfl
  unfold fromU
  rw [if_neg (by unfold lineU; simp), hn, hlen]
  rw [show (lineU s).getD 0 0 = digU ((s.take 45).length : Int) from rfl, hv, hall]
  rw [if_neg (by simp only [Bool.true_eq_false, false_or]; omega), if_neg (by omega), if_neg (by omega)]
  rw [show (lineU s).drop 1 = grp (s.take 45) from rfl, Int.toNat_natCast, hd]
end Go.Proofs.Ytlmkhjegckgmcaa
