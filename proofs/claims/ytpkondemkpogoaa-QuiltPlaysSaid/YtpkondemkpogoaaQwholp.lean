/-
  QuiltWhole, plain: pieces of one text. No condition.
-/
import Derived.Test.YtpkondemkpogoaaQsumc
namespace Go.Proofs.Ytpkondemkpogoaa
open Go.RowKit
set_option linter.unusedVariables false
set_option linter.unusedSimpArgs false

/-- What is held is the text's. -/
def Agr (text : List Int) (q : Q) : Prop := ∀ n x, ctn q.L n = some x → 0 ≤ n ∧ n < text.length ∧ text.getD n.toNat 0 = x
theorem agr_new (text : List Int) : Agr text Q.new := fun n x h => by simp [Q.new, ctn] at h
theorem trm_at (rd : Int) (x : Pat) (n : Int) (h : (trm rd x).1 ≤ n) : (trm rd x).2.getD (n - (trm rd x).1).toNat 0 = x.2.getD (n - x.1).toNat 0 := by
  unfold trm at h ⊢
  split
  · next hh =>
    rw [if_pos hh] at h
    simp only at h ⊢
    rw [getD_drop]
    congr 1
    omega
  · rfl
theorem agr_put {text : List Int} {q : Q} (hI : QI q) (ha : Agr text q) {off : Nat} {k : Nat} {en : Bool} (h : off + k ≤ text.length) : Agr text (q.put off ((text.drop off).take k) en) := by
  unfold Q.put
  split
  · intro n x hx
    have hlen : ((text.drop off).take k).length = k := by rw [List.length_take, List.length_drop]; omega
    have hx' : ctn (putL (trm q.rd ((off : Int), (text.drop off).take k)) q.L) n = some x := hx
    rw [put_ctn hI.k.ch] at hx'
    cases hc : ctn q.L n with
    | some y =>
      rw [hc] at hx'
      simp only [Option.some_or, Option.some.injEq] at hx'
      subst hx'
      exact ha n y hc
    | none =>
      rw [hc, Option.none_or] at hx'
      split at hx'
      · next hr =>
        simp only [Option.some.injEq] at hx'
        have h1 := trm_lo q.rd ((off : Int), (text.drop off).take k)
        have h2 := hr.2
        rw [trm_pe] at h2
        have hpe : pe ((off : Int), (text.drop off).take k) = off + k := by unfold pe; simp only; rw [hlen]
        rw [hpe] at h2
        simp only at h1
        rw [trm_at _ _ _ hr.1] at hx'
        refine ⟨by omega, by omega, ?_⟩
        rw [← hx']
        simp only [List.getD, List.getElem?_take, List.getElem?_drop]
        rw [if_pos (by omega)]
        congr 2
        omega
      · simp at hx'
  · exact ha
theorem agr_take {text : List Int} {q : Q} (hI : QI q) (ha : Agr text q) (m : Int) : Agr text (q.take m) ∧ ∀ i, i < q.n m → text.getD (q.rd + (i : Int)).toNat 0 = (q.got m).getD i 0 := by
  obtain ⟨h1, h2, h3, h4, h5⟩ := tak_law hI.k.ch (q.n_le m)
  refine ⟨fun n x hx => ?_, fun i hi => ?_⟩
  · have hx' : ctn (tak (q.n m) q.L) n = some x := hx
    rw [h4 n] at hx'
    split at hx'
    · simp at hx'
    · exact ha n x hx'
  · exact (ha _ _ (h3 i hi).symm).2.2
/-- All came: all that was not read is ready. -/
theorem whole_rdy {text : List Int} {q : Q} (hI : QI q) (hr : q.rd ≤ text.length) (hc : ∀ n : Int, 0 ≤ n → (((0 ≤ n ∧ n < q.rd) ∨ (ctn q.L n).isSome = true) ↔ n < text.length)) : q.rd + (rdy q.rd q.L : Int) = text.length := by
  have hlo := hI.k.lo
  have h1 := rdy_out hI.k.ch
  have h2 := hc (q.rd + rdy q.rd q.L) (by omega)
  rw [h1] at h2
  simp only [Option.isSome_none, Bool.false_eq_true, or_false] at h2
  have h3 : ¬ (q.rd + (rdy q.rd q.L : Int) < text.length) := fun h => by have := h2.2 h; omega
  by_cases h0 : rdy q.rd q.L = 0
  · rw [h0] at h3 ⊢
    omega
  · have h4 := rdy_in hI.k.ch (q.rd + rdy q.rd q.L - 1) (by omega) (by omega)
    have h5 := (hc (q.rd + rdy q.rd q.L - 1) (by omega)).1 (.inr h4)
    omega
theorem ctn_nil {b : Int} {L : List Pat} (h : Ch b L) (hn : ∀ n, ctn L n = none) : L = [] := by
  cases L with
  | nil => rfl
  | cons x T =>
    have h1 := hn x.1
    have h2 := len_pos h.2.1
    rw [show ctn (x :: T) x.1 = if x.1 ≤ x.1 ∧ x.1 < pe x then some (x.2.getD (x.1 - x.1).toNat 0) else ctn T x.1 from rfl, if_pos ⟨Int.le_refl _, by unfold pe; omega⟩] at h1
    simp at h1
theorem take_more {text g : List Int} {r : Nat} (h : ∀ i, i < g.length → text.getD (r + i) 0 = g.getD i 0) (hl : r + g.length ≤ text.length) : text.take r ++ g = text.take (r + g.length) := by
  rw [List.take_add]
  congr 1
  refine List.ext_getElem (by rw [List.length_take, List.length_drop]; omega) (fun i h1 h2 => ?_)
  have h3 := h i h1
  rw [List.getElem_take, List.getElem_drop]
  simp only [List.getD, List.getElem?_eq_getElem h1, List.getElem?_eq_getElem (show r + i < text.length by omega), Option.getD_some] at h3
  exact h3.symm
/-- What holds of the quilt between the calls. -/
structure WI (text : List Int) (q : Q) : Prop where
  i : QI q
  a : Agr text q
  hi : q.hi ≤ text.length
  la : q.kn = true → q.la = text.length
  rd : q.rd ≤ text.length
theorem WI.new (text : List Int) : WI text Q.new := ⟨QI.new, agr_new text, by simp [Q.new], fun h => by simp [Q.new] at h, by simp [Q.new]⟩
theorem WI.err {text : List Int} {q : Q} (h : WI text q) (ht : text.length ≤ 300) {off k : Nat} {en : Bool} (hk : off + k ≤ text.length) (he : en = true → off + k = text.length) : q.err off ((text.drop off).take k) en = 0 := by
  have hlen : ((text.drop off).take k).length = k := by rw [List.length_take, List.length_drop]; omega
  have h1 := h.hi
  unfold Q.err chkE
  rw [hlen, if_neg (by simp only [QM]; omega), if_neg]
  intro hh
  simp only [Bool.or_eq_true, Bool.and_eq_true, decide_eq_true_eq, ne_eq] at hh
  rcases hh with ⟨hkn, hh⟩ | ⟨hen, hh⟩
  · have h2 := h.la hkn
    rcases hh with hh | ⟨hen, hh⟩
    · omega
    · have := he hen; omega
  · have := he hen; omega
theorem WI.put {text : List Int} {q : Q} (h : WI text q) (hb : BytesOk text) (ht : text.length ≤ 300) {off k : Nat} {en : Bool} (hk : off + k ≤ text.length) (he : en = true → off + k = text.length) : WI text (q.put off ((text.drop off).take k) en) := by
  have hlen : ((text.drop off).take k).length = k := by rw [List.length_take, List.length_drop]; omega
  have he0 := h.err ht hk he
  have h1 := h.hi
  have h2 := h.la
  refine ⟨h.i.put (by omega) ((hb.drop off).take k), agr_put h.i h.a hk, ?_, ?_, ?_⟩
  · unfold Q.put
    rw [if_pos he0]
    simp only [hlen]
    omega
  · unfold Q.put
    rw [if_pos he0]
    simp only [hlen]
    intro hkn
    cases en with
    | true =>
      have e : laE true ((off : Int) + (k : Int)) q.la = off + k := rfl
      rw [e]
      have := he rfl
      omega
    | false =>
      have e : laE false ((off : Int) + (k : Int)) q.la = q.la := rfl
      rw [e]
      exact h2 (by simpa using hkn)
  · unfold Q.put
    rw [if_pos he0]
    exact h.rd
/-- No place beyond the text is ready. -/
theorem WI.rdy {text : List Int} {q : Q} (h : WI text q) : q.rd + (rdy q.rd q.L : Int) ≤ text.length := by
  have hlo := h.i.k.lo
  have hr := h.rd
  by_cases h0 : Go.Proofs.Ytpkondemkpogoaa.rdy q.rd q.L = 0
  · rw [h0]; omega
  · have h4 := rdy_in h.i.k.ch (q.rd + Go.Proofs.Ytpkondemkpogoaa.rdy q.rd q.L - 1) (by omega) (by omega)
    obtain ⟨x, hx⟩ := Option.isSome_iff_exists.1 h4
    have := (h.a _ _ hx).2.1
    omega
theorem WI.take {text : List Int} {q : Q} (h : WI text q) (m : Int) : WI text (q.take m) ∧ text.take q.rd.toNat ++ q.got m = text.take (q.take m).rd.toNat := by
  obtain ⟨h1, h2, h3, h4⟩ := h.i.take m
  obtain ⟨k1, k2⟩ := agr_take h.i h.a m
  have hn := q.n_le m
  have hr := h.rdy
  have hlo := h.i.k.lo
  have e : (q.take m).rd = q.rd + (q.n m : Int) := rfl
  refine ⟨⟨h1, k1, h.hi, h.la, by rw [e]; omega⟩, ?_⟩
  have e2 : (q.take m).rd.toNat = q.rd.toNat + (q.got m).length := by rw [e, h3]; omega
  rw [e2]
  refine take_more (fun i hi => ?_) (by rw [h3]; omega)
  rw [h3] at hi
  rw [← k2 i hi]
  congr 1
  omega
/-- The end: all is read. -/
theorem WI.end_ {text : List Int} {q : Q} (h : WI text q) (ht : text.length ≤ 300) (hkn : q.kn = true) (hc : ∀ n : Int, 0 ≤ n → (((0 ≤ n ∧ n < q.rd) ∨ (ctn q.L n).isSome = true) ↔ n < text.length)) :
    (q.take 1000).done = true ∧ hld (q.take 1000).L = 0 ∧ text.take q.rd.toNat ++ q.got 1000 = text := by
  have hw := whole_rdy h.i h.rd hc
  have hlo := h.i.k.lo
  have hm : (max (1000 : Int) 0).toNat = 1000 := rfl
  have hn : q.n 1000 = Go.Proofs.Ytpkondemkpogoaa.rdy q.rd q.L := by unfold Q.n tkN; rw [hm]; omega
  have e : (q.take 1000).rd = q.rd + (q.n 1000 : Int) := rfl
  have e2 : (q.take 1000).rd = text.length := by rw [e, hn]; exact hw
  obtain ⟨k1, k2⟩ := h.take 1000
  refine ⟨?_, ?_, ?_⟩
  · unfold Q.done
    rw [e2, show (q.take 1000).kn = q.kn from rfl, hkn, show (q.take 1000).la = q.la from rfl, h.la hkn]
    simp
  · have hz : (q.take 1000).L = [] := ctn_nil k1.i.k.ch (fun n => by
      cases hcn : ctn (q.take 1000).L n with
      | none => rfl
      | some x =>
        have h1 := k1.a n x hcn
        have h2 := ps_low k1.i.k.ch n (ps_mem.2 (by rw [hcn]; rfl))
        rw [e2] at h2
        omega)
    rw [hz]
    rfl
  · rw [k2, e2]
    simp

end Go.Proofs.Ytpkondemkpogoaa
