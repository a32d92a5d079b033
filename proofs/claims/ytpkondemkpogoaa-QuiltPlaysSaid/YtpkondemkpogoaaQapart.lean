/-
  A quilt whose pieces lie in blocks of a kind. No condition.
-/
import Derived.Test.YtpkondemkpogoaaQkeep
namespace Go.Proofs.Ytpkondemkpogoaa
open Go.RowKit
set_option linter.unusedVariables false
set_option linter.unusedSimpArgs false

/-- The quilt q at g; its pieces' bytes lie where S holds. -/
def QP (S : Nat → Prop) (B : Nat) (w : World) (g : Nat) (q : Q) : Prop := ∃ rb d, QS S B w g rb d q.rd q.hi q.la q.kn ∧ lp d = q.L
theorem QP.qa {S : Nat → Prop} {B : Nat} {w : World} {g : Nat} {q : Q} (h : QP S B w g q) : QA B w g q := by
  obtain ⟨rb, d, h1, h2⟩ := h
  exact ⟨rb, d, h1.mono (fun _ _ => trivial), h2⟩
theorem QP.base {S : Nat → Prop} {B B' : Nat} {w : World} {g : Nat} {q : Q} (h : QP S B w g q) (hB : B' ≤ B) : QP S B' w g q := by
  obtain ⟨rb, d, h1, h2⟩ := h
  exact ⟨rb, d, h1.base hB, h2⟩
theorem QP.below {S : Nat → Prop} {B : Nat} {w w' : World} {g : Nat} {q : Q} (h : QP S B w g q) (hb : Below w.heap.size w w') : QP S B w' g q := by
  obtain ⟨rb, d, h1, h2⟩ := h
  exact ⟨rb, d, h1.below hb, h2⟩
theorem QP.mono {S S' : Nat → Prop} {B : Nat} {w : World} {g : Nat} {q : Q} (h : QP S B w g q) (hS : ∀ b, b < w.heap.size → S b → S' b) : QP S' B w g q := by
  obtain ⟨rb, d, h1, h2⟩ := h
  exact ⟨rb, d, ⟨h1.lo, h1.me, fun x hx => ⟨(h1.ps x hx).1, fun b e => hS b ((h1.ps x hx).1.olt b e) ((h1.ps x hx).2 b e)⟩⟩, h2⟩
theorem QP.lt {S : Nat → Prop} {B : Nat} {w : World} {g : Nat} {q : Q} (h : QP S B w g q) : B ≤ g ∧ g < w.heap.size := by
  obtain ⟨rb, d, h1, h2⟩ := h
  exact ⟨h1.lo, h1.lt⟩
/-- It stays where a block of bytes turns in which no piece lies. -/
theorem QP.row {S : Nat → Prop} {B : Nat} {w w' : World} {g : Nat} {q : Q} {r : Option Nat} (h : QP S B w g q) (hg : w.grownBy w' r) (hr : ∀ m, r = some m → ¬ S m) (h5 : ∀ m, r = some m → ∃ t cs, Blk w m t cs ∧ t ≠ 63 ∧ t ≠ 66) : QP S B w' g q := by
  obtain ⟨rb, d, h1, h2⟩ := h
  cases r with
  | none => 
    obtain ⟨V, rfl, k2, k3⟩ := h1.me
    exact ⟨_, d, ⟨h1.lo, ⟨V, rfl, k2.grown hg (by simp), k3.kept hg (by cases V.ownBlock <;> simp)⟩, h1.ps.kept hg (fun b _ => by simp)⟩, h2⟩
  | some m =>
    obtain ⟨t, cs, hB, n1, n2⟩ := h5 m rfl
    have hgm : m ≠ g := fun e => by
      subst e
      obtain ⟨V, rfl, k2, k3⟩ := h1.me
      exact Blk.ne_ k2 hB (Ne.symm n1) rfl
    refine ⟨rb, d, h1.kept hg hgm (fun e => ?_) (fun b hS e => hr m rfl (e ▸ hS)), h2⟩
    obtain ⟨V, e1, k2, k3⟩ := h1.me
    exact k3.blk_ne hB (Ne.symm n2) (e1.trans e)
theorem QP.cell {S : Nat → Prop} {B : Nat} {w : World} {g : Nat} {q : Q} {b : Nat} {t : TypeId} {cs : Array Value} (h : QP S B w g q) (hB : Blk w b t cs) (h5 : t ≠ 5) (h6 : t ≠ 63) (h7 : t ≠ 66) (i : Nat) (u : Value) : QP S B (w.setCell ⟨b, i, none⟩ u) g q := by
  obtain ⟨rb, d, h1, h2⟩ := h
  have hg : w.grownBy (w.setCell ⟨b, i, none⟩ u) (some b) := ⟨rfl, rfl, rfl, by simp [World.setCell], fun k hk hne => Below.heap_setCell w _ u k (by rintro rfl; exact hne rfl)⟩
  obtain ⟨V, rfl, k2, k3⟩ := h1.me
  have hgb : b ≠ g := fun e => by subst e; exact Blk.ne_ k2 hB (Ne.symm h6) rfl
  exact ⟨_, d, ⟨h1.lo, ⟨V, rfl, k2.grown hg (by simpa using Ne.symm hgb), k3.kept hg (.inr (k3.blk_ne hB (Ne.symm h7)))⟩, h1.ps.set hB h5 i u⟩, h2⟩
theorem new_lawP (S : Nat → Prop) (w : World) : Calls Try.prog 10 #[] w fun e w' => e = .returned (.pointer (some ⟨w.heap.size, 0, none⟩)) ∧ QP S w.heap.size w' w.heap.size Q.new ∧ Below w.heap.size w w' := by
  refine (new_law w).mono ?_
  rintro e w' ⟨rfl, ⟨rb, d, h1, h2⟩, hb⟩
  have hd : d = [] := by
    have : d.map (·.1) = [] := h2
    simpa using this
  subst hd
  exact ⟨rfl, ⟨rb, [], ⟨h1.lo, h1.me, PsOk.nil _ _⟩, h2⟩, hb⟩
theorem put_lawP (S : Nat → Prop) (B g : Nat) (q : Q) (off : Int) (v : Value) (l : List Int) (en : Bool) (w : World) (hq : QP S B w g q) (hi : QI q) (hsm : hld q.L ≤ 1000000) (hB : B ≤ w.heap.size)
    (hr : Rd w .u8 v l) (hl : l.length ≤ 1000000) (hby : BytesOk l) (ho : 0 ≤ off ∧ off ≤ 18446744073709551615) :
    Calls Try.prog 11 #[.pointer (some ⟨g, 0, none⟩), .int .u64 off, v, .bool en] w fun e w' => e = .returned (.int .i64 (q.err off l en)) ∧ QP (fun b => S b ∨ w.heap.size ≤ b) B w' g (q.put off l en) ∧ Below B w w' ∧ KeepT w w' ∧ KeepM w w' := by
  obtain ⟨rb, d, h1, h2⟩ := hq
  have hk := hi.k
  rw [← h2] at hk hsm
  by_cases hc : chkE q.hi q.la q.kn off l.length en = 0
  · refine (put_yes _ B g rb d q.rd q.hi q.la q.kn off v l en w h1 hk hsm hB hi.rd hr hl hby ho ⟨hi.hi0, hi.hi1⟩ hc).mono ?_
    rintro e w' ⟨rfl, rb', d', h3, h4, h5⟩
    refine ⟨by rw [show q.err off l en = 0 from hc], ⟨rb', d', ?_, ?_⟩, h5.to_below hB h1.lo (fun b hb => (h1.rlt b hb).1), keep_onl h1 h5, keepm_onl h1 h5⟩
    · unfold Q.put
      rw [if_pos (show q.err off l en = 0 from hc)]
      exact h3
    · unfold Q.put
      rw [if_pos (show q.err off l en = 0 from hc), h4, h2]
  · refine (put_no _ B g rb d q.rd q.hi q.la q.kn off v l en w h1 hr hl ho hc).mono ?_
    rintro e w' ⟨rfl, rfl⟩
    refine ⟨rfl, ?_, Below.refl _ _, KeepT.refl _, fun b es ck h => h⟩
    unfold Q.put
    rw [if_neg (show ¬ q.err off l en = 0 from hc)]
    exact ⟨rb, d, h1.mono (fun _ h => .inl h), h2⟩
theorem take_lawP (S : Nat → Prop) (B g : Nat) (q : Q) (m : Int) (w : World) (hq : QP S B w g q) (hi : QI q) (hsm : hld q.L ≤ 1000000) (hB : B ≤ w.heap.size) (hm : -9223372036854775808 ≤ m ∧ m ≤ 9223372036854775807) :
    Calls Try.prog 13 #[.pointer (some ⟨g, 0, none⟩), .int .i64 m] w fun e w' => ∃ v, e = .returned (.tuple #[v, .bool (q.take m).done]) ∧ QP S B w' g (q.take m) ∧ w'.ownsRow w.heap.size 5 1 v (q.n m) ((q.got m).map (Value.int .u8)) ∧ Below B w w' ∧ KeepT w w' ∧ KeepM w w' := by
  obtain ⟨rb, d, h1, h2⟩ := hq
  have hk := hi.k
  rw [← h2] at hk hsm
  refine (take_any _ B g rb d q.rd q.hi q.la q.kn m w h1 hk hsm hB hi.rd hm).mono ?_
  rintro e w' ⟨v, d', rfl, h3, h4, h5, h6⟩
  rw [h2] at h3 h4 h5 ⊢
  exact ⟨v, rfl, ⟨rb, d', h3, h4⟩, h5, h6.to_below hB h1.lo (fun b hb => (h1.rlt b hb).1), keep_onl h1 h6, keepm_onl h1 h6⟩

end Go.Proofs.Ytpkondemkpogoaa
