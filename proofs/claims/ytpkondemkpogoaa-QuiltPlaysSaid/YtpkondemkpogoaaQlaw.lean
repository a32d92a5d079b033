/-
  A quilt by its contracts: New, Put, Take, Close and what reads it, on a plain state. No condition.
-/
import Derived.Test.YtpkondemkpogoaaQput
namespace Go.Proofs.Ytpkondemkpogoaa
open Go.RowKit
set_option linter.unusedVariables false
set_option linter.unusedSimpArgs false

/-- What a quilt is, plain. -/
structure Q where
  L : List Pat
  rd : Int
  hi : Int
  la : Int
  kn : Bool
def Q.new : Q := ⟨[], 0, 0, 0, false⟩
def Q.err (q : Q) (off : Int) (l : List Int) (en : Bool) : Int := chkE q.hi q.la q.kn off l.length en
def Q.put (q : Q) (off : Int) (l : List Int) (en : Bool) : Q :=
  if q.err off l en = 0 then ⟨putL (trm q.rd (off, l)) q.L, q.rd, max q.hi (off + l.length), laE en (off + l.length) q.la, q.kn || en⟩ else q
def Q.n (q : Q) (m : Int) : Nat := tkN m q.rd q.L
def Q.take (q : Q) (m : Int) : Q := ⟨tak (q.n m) q.L, q.rd + q.n m, q.hi, q.la, q.kn⟩
def Q.got (q : Q) (m : Int) : List Int := Go.Proofs.Ytpkondemkpogoaa.got (q.n m) q.L
def Q.done (q : Q) : Bool := q.kn && decide (q.rd = q.la)
structure QI (q : Q) : Prop where
  k : Qk q.rd q.L
  rd : q.rd ≤ QM
  hi0 : 0 ≤ q.hi
  hi1 : q.hi ≤ QM
theorem QI.new : QI Q.new := ⟨⟨trivial, Int.le_refl _, fun x hx => by simp [Q.new] at hx, fun x hx => by simp [Q.new] at hx⟩, by decide, by decide, by decide⟩
theorem cut_hld (x : Pat) (L : List Pat) : hld (cutP x L) ≤ x.2.length := by
  have hl : ∀ x : Pat, hld (lst x) = x.2.length := fun x => by unfold lst; split <;> simp [hld, *]
  induction L generalizing x with
  | nil => exact Nat.le_of_eq (hl x)
  | cons y T ih =>
    unfold cutP
    split
    · exact Nat.le_of_eq (hl x)
    · have h1 := ih (adv x y)
      have e : hld (hd1 x y ++ cutP (adv x y) T) = hld (hd1 x y) + hld (cutP (adv x y) T) := by simp [hld]
      have e2 : (adv x y).2.length = x.2.length - avn x y := by unfold adv; simp
      have e3 : hld (hd1 x y) ≤ avn x y := by
        unfold hd1 avn pe
        split
        · simp [hld]; omega
        · simp [hld]
      have e4 : avn x y ≤ x.2.length := Nat.min_le_right _ _
      omega
theorem hld_perm {L K : List Pat} (h : L.Perm K) : hld L = hld K := List.Perm.sum_nat (List.Perm.map (fun x : Pat => x.2.length) h)
theorem put_hld (x : Pat) (L : List Pat) : hld (putL x L) ≤ hld L + x.2.length := by
  rw [hld_perm (put_perm x L)]
  have := cut_hld x L
  have e : hld (L ++ cutP x L) = hld L + hld (cutP x L) := by simp [hld]
  omega
theorem trm_len (rd : Int) (x : Pat) : (trm rd x).2.length ≤ x.2.length := by
  unfold trm
  split
  · simp
  · exact Nat.le_refl _
theorem trm_mem (rd : Int) (x : Pat) : ∀ b ∈ (trm rd x).2, b ∈ x.2 := by
  unfold trm
  split
  · intro b hb; exact List.mem_of_mem_drop hb
  · exact fun b hb => hb
theorem Q.put_hld (q : Q) (off : Int) (l : List Int) (en : Bool) : hld (q.put off l en).L ≤ hld q.L + l.length := by
  unfold Q.put
  split
  · have := Go.Proofs.Ytpkondemkpogoaa.put_hld (trm q.rd (off, l)) q.L
    have := trm_len q.rd (off, l)
    simp only at *
    omega
  · omega
theorem err_le {q : Q} {off : Int} {l : List Int} {en : Bool} (h : q.err off l en = 0) : off + l.length ≤ QM := by
  unfold Q.err chkE at h
  split at h <;> omega
theorem QI.put {q : Q} (h : QI q) {off : Int} {l : List Int} {en : Bool} (ho : 0 ≤ off) (hl : BytesOk l) : QI (q.put off l en) := by
  unfold Q.put
  split
  · next he =>
    have hto := err_le he
    have h0 := h.hi0
    have h1 := h.hi1
    refine ⟨⟨put_trm h.k.ch, h.k.lo, put_all h.k.hi (fun z hz => ?_), put_all h.k.by_ (fun z hz => ?_)⟩, h.rd, by simp only; omega, by simp only; omega⟩
    · have := (cut_in hz).1
      rw [trm_pe] at this
      exact Int.le_trans this hto
    · intro b hb
      exact hl b (trm_mem _ _ b ((cut_in hz).2 b hb))
  · exact h
theorem tak_in {k : Nat} {L : List Pat} {z : Pat} (h : z ∈ tak k L) : ∃ y ∈ L, pe z = pe y ∧ ∀ b ∈ z.2, b ∈ y.2 := by
  induction L generalizing k with
  | nil => simp [tak] at h
  | cons x T ih =>
    rw [tak_cons] at h
    split at h
    · next hk =>
      rcases List.mem_cons.1 h with rfl | h
      · exact ⟨x, by simp, by unfold pe; simp only [List.length_drop]; omega, fun b hb => List.mem_of_mem_drop hb⟩
      · exact ⟨z, by simp [h], rfl, fun b hb => hb⟩
    · obtain ⟨y, h1, h2⟩ := ih h
      exact ⟨y, by simp [h1], h2⟩
theorem rdy_qm {r : Int} {L : List Pat} (h : Ch r L) (hi : ∀ x ∈ L, pe x ≤ QM) (hr : r ≤ QM) : r + (rdy r L : Int) ≤ QM := by
  induction L generalizing r with
  | nil => simpa [rdy] using hr
  | cons x T ih =>
    obtain ⟨h1, h2, h3⟩ := h
    rw [rdy_cons]
    split
    · next e =>
      have := ih h3 (fun y hy => hi y (by simp [hy])) (hi x (by simp))
      have e2 : pe x = x.1 + x.2.length := rfl
      omega
    · simpa using hr
theorem Q.n_le (q : Q) (m : Int) : q.n m ≤ rdy q.rd q.L := Nat.min_le_left _ _
theorem QI.take {q : Q} (h : QI q) (m : Int) : QI (q.take m) ∧ hld (q.take m).L + q.n m = hld q.L ∧ (q.got m).length = q.n m ∧ BytesOk (q.got m) := by
  obtain ⟨h1, h2, h3, h4, h5⟩ := tak_law h.k.ch (q.n_le m)
  have hq := rdy_qm h.k.ch h.k.hi h.rd
  have hn := q.n_le m
  have hlo := h.k.lo
  refine ⟨⟨⟨h1, by simp only [Q.take]; omega, fun z hz => ?_, fun z hz => ?_⟩, by simp only [Q.take]; omega, h.hi0, h.hi1⟩, h5, h2, fun b hb => ?_⟩
  · obtain ⟨y, hy, e, _⟩ := tak_in hz
    rw [e]; exact h.k.hi y hy
  · obtain ⟨y, hy, _, e⟩ := tak_in hz
    exact fun b hb => h.k.by_ y hy b (e b hb)
  · have : ∀ (L : List Pat) (k : Nat), (∀ x ∈ L, BytesOk x.2) → BytesOk (Go.Proofs.Ytpkondemkpogoaa.got k L) := by
      intro L
      induction L with
      | nil => intro k _ b hb; simp [Go.Proofs.Ytpkondemkpogoaa.got] at hb
      | cons x T ih =>
        intro k hx
        rw [got_cons]
        split
        · exact (hx x (by simp)).take k
        · exact (hx x (by simp)).append (ih _ (fun y hy => hx y (by simp [hy])))
    exact this q.L _ h.k.by_ b hb
/-- A quilt in memory: nothing of it lies below B. -/
def QA (B : Nat) (w : World) (g : Nat) (q : Q) : Prop := ∃ rb d, QS (fun _ => True) B w g rb d q.rd q.hi q.la q.kn ∧ lp d = q.L
theorem QA.below {B : Nat} {w w' : World} {g : Nat} {q : Q} (h : QA B w g q) (hb : Below w.heap.size w w') : QA B w' g q := by
  obtain ⟨rb, d, h1, h2⟩ := h
  exact ⟨rb, d, h1.below hb, h2⟩
theorem QA.lt {B : Nat} {w : World} {g : Nat} {q : Q} (h : QA B w g q) : g < w.heap.size := by
  obtain ⟨rb, d, h1, h2⟩ := h
  exact h1.lt
/-- Blocks of other kinds stay. -/
def KeepT (w w' : World) : Prop := ∀ b t cs, Blk w b t cs → t ≠ 63 → t ≠ 66 → Blk w' b t cs
theorem KeepT.refl (w : World) : KeepT w w := fun b t cs h _ _ => h
theorem KeepT.trans {w w' w'' : World} (h : KeepT w w') (k : KeepT w' w'') : KeepT w w'' := fun b t cs hb h1 h2 => k b t cs (h b t cs hb h1 h2) h1 h2
theorem KeepT.of_below {w w' : World} (hb : Below w.heap.size w w') : KeepT w w' := fun b t cs h _ _ => h.same hb
theorem own_keep {w w' : World} {base n size : Nat} {e : TypeId} {v : Value} {xs : List Value} (h : w.ownsRow base e size v n xs) (k : KeepT w w') (h1 : e ≠ 63) (h2 : e ≠ 66) : w'.ownsRow base e size v n xs := by
  refine ⟨h.1, ?_⟩
  rcases h.2 with h3 | ⟨g, cap, cur, rfl, hg, hb, r⟩
  · exact .inl h3
  · exact .inr ⟨g, cap, cur, rfl, hg, k g e cur hb h1 h2, r⟩
theorem keep_onl {S : Nat → Prop} {B : Nat} {w w' : World} {g : Nat} {rb : Option Nat} {d : List PV} {rd hi la : Int} {kn : Bool} (h : QS S B w g rb d rd hi la kn) (k : Onl w w' g rb) : KeepT w w' := by
  obtain ⟨V, rfl, h2, h3⟩ := h.me
  exact fun b t cs hb h63 h66 => (k.block b hb.lt (hb.ne_ h2 h63) (fun e => h3.blk_ne hb (Ne.symm h66) e.symm)).trans hb
set_option maxHeartbeats 4000000 in
set_option maxRecDepth 100000 in
theorem new_law (w : World) : Calls Try.prog 10 #[] w fun e w' => e = .returned (.pointer (some ⟨w.heap.size, 0, none⟩)) ∧ QA w.heap.size w' w.heap.size Q.new ∧ Below w.heap.size w w' := by
  have hb : Below w.heap.size w (w.alloc (.cells #[.slice none 0 0, .int .u64 0, .int .u64 0, .int .u64 0, .bool false] 63)) := (Below.refl _ _).alloc (Nat.le_refl _) _
  have hq : QA w.heap.size (w.alloc (.cells #[.slice none 0 0, .int .u64 0, .int .u64 0, .int .u64 0, .bool false] 63)) w.heap.size Q.new := ⟨none, [], ⟨Nat.le_refl _, ⟨.slice none 0 0, rfl, Blk.new _ _ _, OwnM.nil _ _ _ _⟩, PsOk.nil _ _⟩, rfl⟩
  have HQ := Lib.hid hq
  have HB := Lib.hid hb
  clear hq hb
  go_enter Try.func10, Try.ntmps10
  go_wp2_with fail
  go_ret
  exact ⟨rfl, HQ.out, HB.out⟩
set_option maxHeartbeats 4000000 in
set_option maxRecDepth 100000 in
theorem put_no (S : Nat → Prop) (B g : Nat) (rb : Option Nat) (d : List PV) (rd hi la : Int) (kn : Bool) (off : Int) (v : Value) (l : List Int) (en : Bool) (w : World) (hq : QS S B w g rb d rd hi la kn)
    (hr : Rd w .u8 v l) (hl : l.length ≤ 1000000) (ho : 0 ≤ off ∧ off ≤ 18446744073709551615) (hc : chkE hi la kn off l.length en ≠ 0) :
    Calls Try.prog 11 #[.pointer (some ⟨g, 0, none⟩), .int .u64 off, v, .bool en] w fun e w' => e = .returned (.int .i64 (chkE hi la kn off l.length en)) ∧ w = w' := by
  have hchk := check_any S B g rb d rd hi la kn off l.length en w hq ho hl
  obtain ⟨Al, cl, rfl⟩ := hr.form
  obtain ⟨c, hcc⟩ : ∃ c, c = chkE hi la kn off l.length en := ⟨_, rfl⟩
  rw [← hcc] at hchk hc ⊢
  clear hq hr hcc
  go_enter Try.func11, Try.ntmps11
  go_wp2_with fail
  (with_reducible refine hchk.mono ?_)
  rintro e w1 ⟨rfl, rfl⟩
  go_wp2_with fail
  go_ret
  exact ⟨rfl, rfl⟩
/-- Put. -/
theorem put_law (B g : Nat) (q : Q) (off : Int) (v : Value) (l : List Int) (en : Bool) (w : World) (hq : QA B w g q) (hi : QI q) (hsm : hld q.L ≤ 1000000) (hB : B ≤ w.heap.size)
    (hr : Rd w .u8 v l) (hl : l.length ≤ 1000000) (hby : BytesOk l) (ho : 0 ≤ off ∧ off ≤ 18446744073709551615) :
    Calls Try.prog 11 #[.pointer (some ⟨g, 0, none⟩), .int .u64 off, v, .bool en] w fun e w' => e = .returned (.int .i64 (q.err off l en)) ∧ QA B w' g (q.put off l en) ∧ Below B w w' ∧ KeepT w w' := by
  obtain ⟨rb, d, h1, h2⟩ := hq
  have hk := hi.k
  rw [← h2] at hk hsm
  by_cases hc : chkE q.hi q.la q.kn off l.length en = 0
  · refine (put_yes _ B g rb d q.rd q.hi q.la q.kn off v l en w h1 hk hsm hB hi.rd hr hl hby ho ⟨hi.hi0, hi.hi1⟩ hc).mono ?_
    rintro e w' ⟨rfl, rb', d', h3, h4, h5⟩
    refine ⟨by rw [show q.err off l en = 0 from hc], ⟨rb', d', ?_, ?_⟩, h5.to_below hB h1.lo (fun b hb => (h1.rlt b hb).1), keep_onl h1 h5⟩
    · unfold Q.put
      rw [if_pos (show q.err off l en = 0 from hc)]
      exact h3.mono (fun _ _ => trivial)
    · unfold Q.put
      rw [if_pos (show q.err off l en = 0 from hc), h4, h2]
  · refine (put_no _ B g rb d q.rd q.hi q.la q.kn off v l en w h1 hr hl ho hc).mono ?_
    rintro e w' ⟨rfl, rfl⟩
    refine ⟨rfl, ?_, Below.refl _ _, KeepT.refl _⟩
    unfold Q.put
    rw [if_neg (show ¬ q.err off l en = 0 from hc)]
    exact ⟨rb, d, h1, h2⟩
/-- Take. -/
theorem take_law (B g : Nat) (q : Q) (m : Int) (w : World) (hq : QA B w g q) (hi : QI q) (hsm : hld q.L ≤ 1000000) (hB : B ≤ w.heap.size) (hm : -9223372036854775808 ≤ m ∧ m ≤ 9223372036854775807) :
    Calls Try.prog 13 #[.pointer (some ⟨g, 0, none⟩), .int .i64 m] w fun e w' => ∃ v, e = .returned (.tuple #[v, .bool (q.take m).done]) ∧ QA B w' g (q.take m) ∧ w'.ownsRow w.heap.size 5 1 v (q.n m) ((q.got m).map (Value.int .u8)) ∧ Below B w w' ∧ KeepT w w' := by
  obtain ⟨rb, d, h1, h2⟩ := hq
  have hk := hi.k
  rw [← h2] at hk hsm
  refine (take_any _ B g rb d q.rd q.hi q.la q.kn m w h1 hk hsm hB hi.rd hm).mono ?_
  rintro e w' ⟨v, d', rfl, h3, h4, h5, h6⟩
  rw [h2] at h3 h4 h5 ⊢
  exact ⟨v, rfl, ⟨rb, d', h3, h4⟩, h5, h6.to_below hB h1.lo (fun b hb => (h1.rlt b hb).1), keep_onl h1 h6⟩

end Go.Proofs.Ytpkondemkpogoaa
