/-
  QuiltWhole: the pieces of a text, as a row. No condition.
-/
import Derived.Test.YtpkondemkpogoaaQwholp
namespace Go.Proofs.Ytpkondemkpogoaa
open Go.RowKit
set_option linter.unusedVariables false
set_option linter.unusedSimpArgs false

structure Pc where
  off : Nat
  n : Nat
  v : Value
  e : Bool
def pcc (l : List Pc) : List Value := l.flatMap (fun x => [.int .u64 (x.off : Int), x.v, .bool x.e])
theorem pcc_app (l k : List Pc) : pcc (l ++ k) = pcc l ++ pcc k := List.flatMap_append
theorem pcc_len (l : List Pc) : (pcc l).length = l.length * 3 := by
  induction l with
  | nil => rfl
  | cons x T ih =>
    have e : pcc (x :: T) = .int .u64 (x.off : Int) :: x.v :: .bool x.e :: pcc T := rfl
    rw [e]
    simp only [List.length_cons, ih]
    omega
theorem pcc_get (l : List Pc) (i : Nat) (hi : i < l.length) : (pcc l)[i * 3]? = some (.int .u64 (l[i].off : Int)) ∧ (pcc l)[i * 3 + 1]? = some l[i].v ∧ (pcc l)[i * 3 + 2]? = some (.bool l[i].e) := by
  induction l generalizing i with
  | nil => simp at hi
  | cons x T ih =>
    have e : pcc (x :: T) = .int .u64 (x.off : Int) :: x.v :: .bool x.e :: pcc T := rfl
    rw [e]
    cases i with
    | zero => exact ⟨rfl, rfl, rfl⟩
    | succ i =>
      have h := ih i (by simpa using hi)
      rw [show (i + 1) * 3 = i * 3 + 3 by omega]
      exact h
/-- One piece of an owned row of pieces. -/
theorem pc_at {w : World} {B : Nat} {A : Option Addr} {n cap : Nat} {l : List Pc} (h : w.ownsRow B 37 3 (.slice A n cap) n (pcc l)) (i : Nat) (hi : i < l.length) :
    ∃ b off, A = some ⟨b, off, none⟩ ∧ w.cell? ⟨b, off + i * 3, none⟩ = some (.int .u64 (l[i].off : Int)) ∧ w.cell? ⟨b, off + i * 3 + 1, none⟩ = some l[i].v ∧ w.cell? ⟨b, off + i * 3 + 2, none⟩ = some (.bool l[i].e) := by
  have hm := mid_of_own h
  have hl := hm.1
  rw [pcc_len] at hl
  obtain ⟨⟨_, h5⟩, _⟩ := hm.rdv
  obtain ⟨b, off, e, hb, hc⟩ := h5 i (by omega)
  obtain ⟨g0, g1, g2⟩ := pcc_get l i hi
  refine ⟨b, off, e, ?_, ?_, ?_⟩
  · have := hc 0 (by decide)
    rw [Nat.add_zero] at this
    rw [this]
    simp [List.getD, g0]
  · have := hc 1 (by decide)
    rw [← Nat.add_assoc] at this
    rw [this]
    simp [List.getD, g1]
  · have := hc 2 (by decide)
    rw [← Nat.add_assoc] at this
    rw [this]
    simp [List.getD, g2]
/-- A piece of the text. -/
structure PcOk (w : World) (text : List Int) (x : Pc) : Prop where
  fit : x.off + x.n ≤ text.length
  en : x.e = true → x.off + x.n = text.length
  rd : Rd w .u8 x.v ((text.drop x.off).take x.n)
def Cover (l : List Pc) (m : Nat) : Prop := ∀ i, i < m → ∃ x ∈ l, x.off ≤ i ∧ i < x.off + x.n
theorem Cover.app {l : List Pc} {m : Nat} (h : Cover l m) {x : Pc} (hx : x.off = m) : Cover (l ++ [x]) (m + x.n) := fun i hi => by
  by_cases hm : i < m
  · obtain ⟨y, hy, r⟩ := h i hm
    exact ⟨y, List.mem_append_left _ hy, r⟩
  · exact ⟨x, by simp, by omega, by omega⟩
/-- What of the pieces came. -/
def rng (x : Pc) : List Int := (List.range x.n).map (fun i : Nat => (x.off : Int) + (i : Int))
theorem rng_mem {x : Pc} {n : Int} : n ∈ rng x ↔ (x.off : Int) ≤ n ∧ n < x.off + x.n := by
  unfold rng
  simp only [List.mem_map, List.mem_range]
  constructor
  · rintro ⟨i, hi, rfl⟩
    omega
  · rintro ⟨h1, h2⟩
    exact ⟨(n - x.off).toNat, by omega, by omega⟩
/-- The keys that came lie in the text. -/
def InT (text : List Int) (ks : List Int) : Prop := ∀ n ∈ ks, 0 ≤ n ∧ n < text.length
theorem InT.app {text ks : List Int} (h : InT text ks) {x : Pc} (hx : x.off + x.n ≤ text.length) : InT text (ks ++ rng x) := fun n hn => by
  rcases List.mem_append.1 hn with h1 | h1
  · exact h n h1
  · have := rng_mem.1 h1
    omega
/-- From the m-th piece on all came. -/
def AllC (l : List Pc) (m : Nat) (ks : List Int) : Prop := ∀ i (hi : i < l.length), m ≤ i → ∀ n ∈ rng l[i], n ∈ ks
theorem AllC.step {l : List Pc} {m : Nat} {ks : List Int} (h : AllC l (m + 1) ks) (hm : m < l.length) : AllC l m (ks ++ rng l[m]) := fun i hi hmi n hn => by
  by_cases e : m = i
  · subst e
    exact List.mem_append_right _ hn
  · exact List.mem_append_left _ (h i hi (by omega) n hn)
theorem all_came {text : List Int} {l : List Pc} {ks : List Int} {q : Q} (hq : Came q ks) (hc : Cover l text.length) (ha : AllC l 0 ks) (hi : InT text ks) :
    ∀ n : Int, 0 ≤ n → (((0 ≤ n ∧ n < q.rd) ∨ (ctn q.L n).isSome = true) ↔ n < text.length) := fun n hn => by
  rw [← hq n]
  constructor
  · intro h
    exact (hi n h).2
  · intro h
    obtain ⟨x, hx, h1, h2⟩ := hc n.toNat (by omega)
    obtain ⟨i, hil, rfl⟩ := List.getElem_of_mem hx
    exact ha i hil (Nat.zero_le _) n (rng_mem.2 (by omega))
/-- A slice of the text, as the program cuts it. -/
theorem pc_rd {w : World} {v : Value} {text : List Int} {m k : Nat} (h : Rd w .u8 v ((text.drop m).take k)) {off n : Nat} (h1 : off = m) (h2 : n = k) (e : Bool) (hf : m + k ≤ text.length) (he : e = true → m + k = text.length) : PcOk w text ⟨off, n, v, e⟩ := by
  subst h1 h2
  exact ⟨hf, he, h⟩

section
variable {w : World} {text : List Int} {q : Q} {ks : List Int} {y : Pc} {m : Int}
abbrev stp (text : List Int) (q : Q) (y : Pc) (m : Int) : Q := (q.put y.off ((text.drop y.off).take y.n) y.e).take m
theorem stp_len (hy : PcOk w text y) : ((text.drop y.off).take y.n).length = y.n := by have := hy.fit; rw [List.length_take, List.length_drop]; omega
theorem came_stp (h : WI text q) (hb : BytesOk text) (ht : text.length ≤ 300) (hc : Came q ks) (hy : PcOk w text y) : Came (stp text q y m) (ks ++ rng y) := by
  have he := h.err ht hy.fit hy.en
  have h1 := came_put h.i hc (en := y.e) (show 0 ≤ (y.off : Int) by omega) he
  rw [stp_len hy] at h1
  exact came_take (h.i.put (by omega) ((hb.drop _).take _)) h1 m
theorem hld_stp (h : WI text q) (hb : BytesOk text) (ht : text.length ≤ 300) (hy : PcOk w text y) : hld (stp text q y m).L ≤ hld q.L + 300 := by
  have h1 := Q.put_hld q y.off ((text.drop y.off).take y.n) y.e
  have h2 := ((h.i.put (en := y.e) (show 0 ≤ (y.off : Int) by omega) ((hb.drop y.off).take y.n)).take m).2.1
  have h3 := hy.fit
  rw [stp_len hy] at h1
  show hld ((q.put y.off ((text.drop y.off).take y.n) y.e).take m).L ≤ _
  omega
theorem kn_stp (h : WI text q) (ht : text.length ≤ 300) (hy : PcOk w text y) (hk : q.kn = true ∨ y.e = true) : (stp text q y m).kn = true := by
  have he := h.err ht hy.fit hy.en
  show (q.put y.off ((text.drop y.off).take y.n) y.e).kn = true
  unfold Q.put
  rw [if_pos he]
  simp only [Bool.or_eq_true]
  exact hk
end

end Go.Proofs.Ytpkondemkpogoaa
