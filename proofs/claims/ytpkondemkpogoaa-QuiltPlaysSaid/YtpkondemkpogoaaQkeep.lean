/-
  A quilt beside maps: what is a map stays; where a map turns the quilt stays. No condition.
-/
import Derived.Test.YtpkondemkpogoaaQsump
import Derived.Test.YtpkondemkpogoaaLmap
namespace Go.Proofs.Ytpkondemkpogoaa
open Go.RowKit
set_option linter.unusedVariables false
set_option linter.unusedSimpArgs false

def KeepM (w w' : World) : Prop := ∀ (b : Nat) (es) (ck), w.heap[b]? = some (Obj.map es ck) → w'.heap[b]? = some (Obj.map es ck)
theorem KeepM.of_below {w w' : World} (hb : Below w.heap.size w w') : KeepM w w' := fun b es ck h => (hb.block b (Array.getElem?_eq_some_iff.1 h).1).trans h
theorem keepm_onl {S : Nat → Prop} {B : Nat} {w w' : World} {g : Nat} {rb : Option Nat} {d : List PV} {rd hi la : Int} {kn : Bool} (h : QS S B w g rb d rd hi la kn) (k : Onl w w' g rb) : KeepM w w' := by
  obtain ⟨V, rfl, h2, h3⟩ := h.me
  intro b es ck hb
  have hlt : b < w.heap.size := (Array.getElem?_eq_some_iff.1 hb).1
  refine (k.block b hlt (fun e => ?_) (fun e => ?_)).trans hb
  · subst e
    have h2' : w.heap[b]? = _ := h2
    rw [hb] at h2'
    simp at h2'
  · rcases h3.2 with ⟨e1, _⟩ | ⟨g', off', cap', cur, e1, _, hg, _⟩
    · rw [e1] at e; simp [Value.ownBlock] at e
    · rw [e1] at e
      simp [Value.ownBlock] at e
      subst e
      have h2' : w.heap[b]? = _ := hg
      rw [hb] at h2'
      simp at h2'
theorem SetU.keep {w w' : World} {b : Nat} {ks : List Int} (h : SetU w b ks) (k : KeepM w w') : SetU w' b ks := by
  obtain ⟨es, clock, hb, r⟩ := h
  exact ⟨es, clock, k b es clock hb, r⟩
/-- Where a map turns the quilt stays. -/
theorem QA.map {B : Nat} {w w' : World} {g mb : Nat} {q : Q} {ks : List Int} (h : QA B w g q) (hm : SetU w mb ks) (hg : w.grownBy w' (some mb)) : QA B w' g q := by
  obtain ⟨rb, d, h1, h2⟩ := h
  obtain ⟨es, ck, hb, _⟩ := hm
  have ne : ∀ {b : Nat} {t : TypeId} {cs : Array Value}, Blk w b t cs → b ≠ mb := fun {b t cs} hB e => by
    subst e
    have hB' : w.heap[b]? = _ := hB
    rw [hb] at hB'
    simp at hB'
  obtain ⟨V, rfl, k2, k3⟩ := h1.me
  refine ⟨V.ownBlock, d, ⟨h1.lo, ⟨V, rfl, k2.grown hg (fun e => ne k2 (by simpa using e)), k3.kept hg ?_⟩, fun x hx => ⟨(h1.ps x hx).1.kept hg (fun b e e2 => ?_), fun b _ => trivial⟩⟩, h2⟩
  · rcases k3.2 with ⟨e1, _⟩ | ⟨g', off', cap', cur, e1, _, hg', _⟩
    · left; rw [e1]; rfl
    · right
      rw [e1]
      intro e
      simp [Value.ownBlock] at e
      exact ne hg' e
  · rcases (h1.ps x hx).1.shape with ⟨c, e1, _⟩ | ⟨b2, off, cap, cs, e1, hB, _⟩
    · rw [e1] at e; simp [Value.ownBlock] at e
    · rw [e1] at e
      simp [Value.ownBlock] at e
      subst e
      exact ne hB (by simpa using e2)
/-- Put, maps too. -/
theorem put_lawK (B g : Nat) (q : Q) (off : Int) (v : Value) (l : List Int) (en : Bool) (w : World) (hq : QA B w g q) (hi : QI q) (hsm : hld q.L ≤ 1000000) (hB : B ≤ w.heap.size)
    (hr : Rd w .u8 v l) (hl : l.length ≤ 1000000) (hby : BytesOk l) (ho : 0 ≤ off ∧ off ≤ 18446744073709551615) :
    Calls Try.prog 11 #[.pointer (some ⟨g, 0, none⟩), .int .u64 off, v, .bool en] w fun e w' => e = .returned (.int .i64 (q.err off l en)) ∧ QA B w' g (q.put off l en) ∧ Below B w w' ∧ KeepT w w' ∧ KeepM w w' := by
  obtain ⟨rb, d, h1, h2⟩ := hq
  have hk := hi.k
  rw [← h2] at hk hsm
  by_cases hc : chkE q.hi q.la q.kn off l.length en = 0
  · refine (put_yes _ B g rb d q.rd q.hi q.la q.kn off v l en w h1 hk hsm hB hi.rd hr hl hby ho ⟨hi.hi0, hi.hi1⟩ hc).mono ?_
    rintro e w' ⟨rfl, rb', d', h3, h4, h5⟩
    refine ⟨by rw [show q.err off l en = 0 from hc], ⟨rb', d', ?_, ?_⟩, h5.to_below hB h1.lo (fun b hb => (h1.rlt b hb).1), keep_onl h1 h5, keepm_onl h1 h5⟩
    · unfold Q.put
      rw [if_pos (show q.err off l en = 0 from hc)]
      exact h3.mono (fun _ _ => trivial)
    · unfold Q.put
      rw [if_pos (show q.err off l en = 0 from hc), h4, h2]
  · refine (put_no _ B g rb d q.rd q.hi q.la q.kn off v l en w h1 hr hl ho hc).mono ?_
    rintro e w' ⟨rfl, rfl⟩
    refine ⟨rfl, ?_, Below.refl _ _, KeepT.refl _, fun b es ck h => h⟩
    unfold Q.put
    rw [if_neg (show ¬ q.err off l en = 0 from hc)]
    exact ⟨rb, d, h1, h2⟩
/-- Take, maps too. -/
theorem take_lawK (B g : Nat) (q : Q) (m : Int) (w : World) (hq : QA B w g q) (hi : QI q) (hsm : hld q.L ≤ 1000000) (hB : B ≤ w.heap.size) (hm : -9223372036854775808 ≤ m ∧ m ≤ 9223372036854775807) :
    Calls Try.prog 13 #[.pointer (some ⟨g, 0, none⟩), .int .i64 m] w fun e w' => ∃ v, e = .returned (.tuple #[v, .bool (q.take m).done]) ∧ QA B w' g (q.take m) ∧ w'.ownsRow w.heap.size 5 1 v (q.n m) ((q.got m).map (Value.int .u8)) ∧ Below B w w' ∧ KeepT w w' ∧ KeepM w w' := by
  obtain ⟨rb, d, h1, h2⟩ := hq
  have hk := hi.k
  rw [← h2] at hk hsm
  refine (take_any _ B g rb d q.rd q.hi q.la q.kn m w h1 hk hsm hB hi.rd hm).mono ?_
  rintro e w' ⟨v, d', rfl, h3, h4, h5, h6⟩
  rw [h2] at h3 h4 h5 ⊢
  exact ⟨v, rfl, ⟨rb, d', h3, h4⟩, h5, h6.to_below hB h1.lo (fun b hb => (h1.rlt b hb).1), keep_onl h1 h6, keepm_onl h1 h6⟩

end Go.Proofs.Ytpkondemkpogoaa
