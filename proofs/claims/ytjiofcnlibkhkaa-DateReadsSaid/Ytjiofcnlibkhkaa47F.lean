/- Layer 47: a slice of octets that the call may append to, whatever mark its row bears. No condition: plain lemmas. -/
import Derived.Test.YtjiofcnlibkhkaaLibC
import Derived.Lib.ConvBytes
import Derived.ArgAppend
import Derived.Deep.RegionLawGrows
namespace Go.Proofs.Ytjiofcnlibkhkaa
open Go.RowKit

/-- the slice v is the call's own from block B on, holds xs, and may be appended to -/
def App (w : World) (B : Nat) (v : Value) (xs : List Int) : Prop :=
  ∃ g cap, v = .slice (some ⟨g, 0, none⟩) xs.length cap ∧ B ≤ g ∧ g < w.heap.size ∧ xs.length ≤ cap ∧ cap ≤ maxLen ∧ (∀ j, j < xs.length → w.cell? ⟨g, j, none⟩ = some (.int .u8 (xs.getD j 0))) ∧
    (∀ j, xs.length ≤ j → j < cap → (w.cell? ⟨g, j, none⟩).isSome = true ∧ w.frozen? ⟨g, j, none⟩ = false) ∧ ∀ x ∈ xs, (Lit.int .u8 x).wf = true
theorem App.sl {w : World} {B : Nat} {v : Value} {xs : List Int} (h : App w B v xs) : ∃ A c, v = .slice A xs.length c ∧ Sl w .u8 A xs.length c xs := by
  obtain ⟨g, cap, rfl, _, hg, hn, hc, hcell, _, hwf⟩ := h
  exact ⟨_, _, rfl, rfl, hn, hc, by simp, hwf, fun _ => ⟨g, 0, rfl, hg, fun j hj => by rw [Nat.zero_add]; exact hcell j hj⟩⟩
theorem App.bel {w w' : World} {B : Nat} {v : Value} {xs : List Int} (h : App w B v xs) (hb : Below w.heap.size w w') : App w' B v xs := by
  obtain ⟨g, cap, rfl, hB, hg, hn, hc, hcell, hs, hwf⟩ := h
  refine ⟨g, cap, rfl, hB, Nat.lt_of_lt_of_le hg hb.size, hn, hc, fun j hj => (hb.cell (p := ⟨g, j, none⟩) hg).trans (hcell j hj), fun j h1 h2 => ?_, hwf⟩
  rw [hb.cell (p := ⟨g, j, none⟩) hg, hb.frozen (p := ⟨g, j, none⟩) hg]
  exact hs j h1 h2
theorem App.alloc {w : World} {B : Nat} {v : Value} {xs : List Int} (h : App w B v xs) (o : Obj) : App (w.alloc o) B v xs := h.bel ((Below.refl _ _).alloc (Nat.le_refl _) o)
theorem App.mono {w : World} {B B' : Nat} {v : Value} {xs : List Int} (h : App w B v xs) (hB : B' ≤ B) : App w B' v xs := by
  obtain ⟨g, cap, h1, h2, h3⟩ := h
  exact ⟨g, cap, h1, Nat.le_trans hB h2, h3⟩
theorem App.ofOwn {w : World} {B : Nat} {E : TypeId} {v : Value} {xs : List Int} (h : Own w B E .u8 v xs) (hne : xs ≠ []) : App w B v xs := by
  obtain ⟨A, n, c, rfl, hs⟩ := h.sl
  obtain ⟨h0, hwf⟩ := h
  obtain ⟨_, h2⟩ := h0
  have hn := hs.len
  subst hn
  rcases h2 with ⟨hv, hn⟩ | ⟨g, cap, cur, hv, hg, hh, hnc, hcm, hcs, htake⟩
  · exact absurd (List.eq_nil_of_length_eq_zero hn) hne
  · injection hv with e1 e2 e3
    subst e1; subst e3
    have hlt : g < w.heap.size := (Array.getElem?_eq_some_iff.1 hh).1
    refine ⟨g, c, rfl, hg, hlt, hnc, hcm, fun j hj => by have := hs.cell hj; rwa [Nat.zero_add] at this, fun j h1 h2 => ⟨?_, ?_⟩, hwf⟩
    · rw [cell_of_row w g j cur E (0, 0) hh]
      have : j < cur.size := by rw [hcs]; omega
      simp [this]
    · unfold World.frozen?
      rw [hh]; simp
/-- '[]byte(s)' -/
theorem App.ofStr (w : World) (E : TypeId) {s : ByteArray} {x : List Int} (hx : strOfNums x = s) (hwf : ∀ a ∈ x, (Lit.int .u8 a).wf = true) (hl : x.length ≤ 1000) :
    App (Lib.bytesWorld w E s) w.heap.size (.slice (some ⟨w.heap.size, 0, none⟩) s.size (grownCap w s.size 0 E)) x ∧ Below w.heap.size w (Lib.bytesWorld w E s) := by
  have hsz : s.size = x.length := by rw [← hx]; simp [strOfNums, ByteArray.size]
  have hd : natL s.data.toList = x := by
    rw [← hx]
    have e : (strOfNums x).data.toList = Lib.bytesOf x := by simp [strOfNums, Lib.bytesOf]
    rw [e]; exact natL_bytesOf hwf
  have hcap := grownCap_ge w s.size 0 E
  have hcs : (Lib.bytesCells w E s).size = grownCap w s.size 0 E := by
    unfold Lib.bytesCells
    rw [Array.size_append, Array.size_map, Array.size_replicate]
    have : s.data.size = s.size := rfl
    omega
  have hnew := Lib.bytesWorld_at_new w E s
  refine ⟨⟨w.heap.size, grownCap w s.size 0 E, by rw [hsz], Nat.le_refl _, by rw [Lib.bytesWorld_size]; omega, by omega, grownCap_le_maxLen w s.size 0 E (by unfold maxLen; omega), fun j hj => ?_, fun j h1 h2 => ⟨?_, ?_⟩, hwf⟩, ?_⟩
  · rw [Lib.bytesWorld_cell w E s j (by omega)]
    congr 2
    rw [← hd]
    have hj2 : j < s.data.toList.length := by
      have := congrArg List.length hd
      simp only [natL, List.length_map] at this
      omega
    simp [natL, List.getD_eq_getElem?_getD, List.getElem?_map]
    cases s.data[j]? <;> rfl
  · rw [cell_of_row _ w.heap.size j _ E _ hnew]
    have : j < (Lib.bytesCells w E s).size := by omega
    simp [this]
  · unfold World.frozen?
    rw [hnew, hcs]
    simp; omega
  · exact ⟨rfl, rfl, rfl, by rw [Lib.bytesWorld_size]; omega, fun k hk => Lib.bytesWorld_at_old w E s k hk⟩
theorem below_setCells {B b : Nat} {a : World} (hB : B ≤ b) : ∀ (vs : List Value) (o : Nat) (w : World), Below B a w → Below B a (w.setCells b o vs)
  | [], _, _, h => h
  | v :: r, o, _, h => below_setCells hB r (o + 1) _ (h.setCell (p := ⟨b, o, none⟩) hB v)
/-- append(v, src...), v such a slice -/
theorem wpList_appA {P : Program} {w : World} {ops : Array Oper} {rest : List Oper} {o : Oper} {a : Act} {Q : Exit → Act → World → Prop} (hgd : o.guard = none) {s x : Operand} {T : TypeId}
    (ho : o.op = .call { callee := .builtin .append, args := #[s, x], argTypes := #[T, T] }) {E : TypeId} {bytes : Nat} (he : Elt P T E .u8 bytes) (hby : bytes ≤ 64)
    {B : Nat} {v : Value} {xs ys : List Int} {A : Option Addr} {m c : Nat} (hs : a.eval s = v) (hx : a.eval x = .slice A m c)
    (hown : App w B v xs) (hsl : Sl w .u8 A m c ys) (hm : 0 < m) (hB : B ≤ w.heap.size) (hlen : xs.length + m ≤ 1000000)
    (h : ∀ v' w', App w' B v' (xs ++ ys) → Below B w w' → wpList P ops Q rest (a.put o.dst v') w') : wpList P ops Q (o :: rest) a w := by
  obtain ⟨i, hi, hz0, hz1, hz2⟩ := info_parts he.info
  obtain ⟨g, cap, rfl, hBg, hg, hn, hc, hcell, hsp, hwf⟩ := hown
  obtain ⟨b2, o2, rfl, _⟩ := hsl.form hm
  have hl2 := hsl.len
  have hadd : ∀ j, (⟨b2, o2, none⟩ : Addr).add j = ⟨b2, o2 + j, none⟩ := fun j => by unfold Addr.add; split <;> simp_all
  have hbb : (xs.length + m) * bytes ≤ 1000000 * 64 := Nat.mul_le_mul hlen hby
  have hwf2 : ∀ x ∈ xs ++ ys, (Lit.int .u8 x).wf = true := by
    intro x hx
    rcases List.mem_append.1 hx with hx | hx
    · exact hwf x hx
    · exact hsl.wf x hx
  refine wpList_append_arg (P := P) w hgd s x T ho E i (.int .u8 0) 1 bytes he.under hi hz0 hz1 hz2 rfl (by decide) g 0 xs.length cap (xs.map (Value.int .u8)) hs (by simp) ?_ ⟨b2, o2, none⟩ m c (ys.map (Value.int .u8)) hx (by simp [hl2]) ?_ ?_ ?_ (by unfold maxLen; omega) (by omega) ?_ ?_
  · intro j u hu
    have hj : j < xs.length := by
      rcases Nat.lt_or_ge j xs.length with h | h
      · exact h
      · rw [List.getElem?_eq_none (by simp; omega)] at hu; cases hu
    rw [Nat.zero_add, hcell j hj]
    simp [hj] at hu
    simp [hj, hu]
  · intro j u hu
    have hj : j < m := by
      rcases Nat.lt_or_ge j m with h | h
      · exact h
      · rw [List.getElem?_eq_none (by simp [hl2]; omega)] at hu; cases hu
    rw [hadd, hsl.cell hj]
    have hjl : j < ys.length := by omega
    simp [hjl] at hu
    simp [hjl, hu]
  · intro u hu
    simp only [List.mem_map] at hu
    obtain ⟨x, _, rfl⟩ := hu
    rfl
  · intro hr j hj
    simp only [List.length_map, hl2] at hj
    have := hsp (0 + xs.length * 1 + j) (by omega) (by omega)
    exact this
  · intro hr
    have hb := below_setCells (a := w) hBg (ys.map (Value.int .u8)) (0 + xs.length * 1) w (Below.refl _ _)
    have hin := World.cell?_setCells_in g (ys.map (Value.int .u8)) (0 + xs.length * 1) w (fun j hj => by
      simp only [List.length_map, hl2] at hj
      exact (hsp (0 + xs.length * 1 + j) (by omega) (by omega)).1)
    have hout := World.cell?_setCells_out g (ys.map (Value.int .u8)) (0 + xs.length * 1) w
    refine h _ _ ⟨g, cap, by rw [List.length_append, hl2], hBg, Nat.lt_of_lt_of_le hg hb.size, by rw [List.length_append, hl2]; exact hr, hc, fun j hj => ?_, fun j h1 h2 => ?_, hwf2⟩ hb
    · rw [List.length_append, hl2] at hj
      by_cases hjx : j < xs.length
      · rw [hout ⟨g, j, none⟩ (fun _ _ => .inl (by simp; omega)), hcell j hjx]
        simp [List.getD_eq_getElem?_getD, List.getElem?_append, hjx]
      · obtain ⟨q, rfl⟩ : ∃ q, j = 0 + xs.length * 1 + q := ⟨j - xs.length, by omega⟩
        have hq : q < ys.length := by omega
        rw [hin q (by simpa using hq)]
        simp [List.getD_eq_getElem?_getD, hq]
    · rw [List.length_append, hl2] at h1
      rw [hout ⟨g, j, none⟩ (fun _ _ => .inr (by simp [hl2]; omega)), World.frozen?_setCells]
      exact hsp j (by omega) h2
  · intro hr v' w' hrow hg'
    refine h v' w' ((App.ofOwn (E := E) (B := w.heap.size) ⟨?_, hwf2⟩ (by intro e; rw [(List.append_eq_nil_iff.1 e).2] at hl2; simp at hl2; omega)).mono hB) ((Below.refl B w).grown hg' hB (fun j hj => by cases hj))
    rw [List.length_append, hl2, List.map_append]
    exact hrow
end Go.Proofs.Ytjiofcnlibkhkaa
