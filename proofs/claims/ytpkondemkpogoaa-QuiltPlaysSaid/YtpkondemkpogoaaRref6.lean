/-
  Nil quilts of both; Close.
-/
import Derived.Test.YtpkondemkpogoaaRref5
namespace Go.Proofs.Ytpkondemkpogoaa
open Go.RowKit
set_option linter.unusedVariables false
set_option linter.unusedSimpArgs false

set_option maxHeartbeats 8000000 in
set_option maxRecDepth 100000 in
theorem rput_nil (off : Int) (v : Value) (en : Bool) (w : World) : Calls Try.prog 24 #[.pointer none, .int .u64 off, v, .bool en] w fun e w' => e = .returned (.int .i64 6) ∧ w = w' := by
  go_enter Try.func24, Try.ntmps24
  go_wp2_with fail
  go_ret
  exact ⟨rfl, rfl⟩
set_option maxHeartbeats 8000000 in
set_option maxRecDepth 100000 in
theorem rtake_nil (m : Int) (w : World) : Calls Try.prog 25 #[.pointer none, .int .i64 m] w fun e w' => e = .returned (.tuple #[.slice none 0 0, .bool false]) ∧ w = w' := by
  go_enter Try.func25, Try.ntmps25
  go_wp2_with fail
  go_ret2
  exact ⟨rfl, rfl⟩
set_option maxHeartbeats 8000000 in
set_option maxRecDepth 100000 in
theorem rready_nil (w : World) : Calls Try.prog 26 #[.pointer none] w fun e w' => e = .returned (.int .i64 0) ∧ w = w' := by
  go_enter Try.func26, Try.ntmps26
  go_wp2_with fail
  go_ret
  exact ⟨rfl, rfl⟩
set_option maxHeartbeats 8000000 in
set_option maxRecDepth 100000 in
theorem rheld_nil (w : World) : Calls Try.prog 27 #[.pointer none] w fun e w' => e = .returned (.int .i64 0) ∧ w = w' := by
  go_enter Try.func27, Try.ntmps27
  go_wp2_with fail
  go_ret
  exact ⟨rfl, rfl⟩
set_option maxHeartbeats 8000000 in
set_option maxRecDepth 100000 in
theorem rdone_nil (w : World) : Calls Try.prog 28 #[.pointer none] w fun e w' => e = .returned (.bool false) ∧ ∃ m, w.drewN m = w' := by
  go_enter Try.func28, Try.ntmps28
  go_wp2_with fail
  go_quiet (fail)
  go_wp2_with fail
  go_ret
  exact ⟨rfl, _, rfl⟩
set_option maxHeartbeats 8000000 in
set_option maxRecDepth 100000 in
theorem put_nilq (off : Int) (v : Value) (l : List Int) (en : Bool) (w : World) (hr : Rd w .u8 v l) : Calls Try.prog 11 #[.pointer none, .int .u64 off, v, .bool en] w fun e w' => e = .returned (.int .i64 6) ∧ w = w' := by
  obtain ⟨A, c, rfl⟩ := hr.form
  have hc := check_nil off l.length en w
  go_enter Try.func11, Try.ntmps11
  go_wp2_with fail
  (with_reducible refine hc.mono ?_)
  rintro e w1 ⟨rfl, rfl⟩
  go_wp2_with fail
  go_ret
  exact ⟨rfl, rfl⟩
set_option maxHeartbeats 8000000 in
set_option maxRecDepth 100000 in
theorem close_lawP (S : Nat → Prop) (B g : Nat) (q : Q) (off : Int) (w : World) (hq : QP S B w g q) (hi : QI q) (hsm : hld q.L ≤ 1000000) (hB : B ≤ w.heap.size) (ho : 0 ≤ off ∧ off ≤ 18446744073709551615) :
    Calls Try.prog 23 #[.pointer (some ⟨g, 0, none⟩), .int .u64 off] w fun e w' => e = .returned (.int .i64 (q.err off [] true)) ∧ QP (fun b => S b ∨ w.heap.size ≤ b) B w' g (q.put off [] true) ∧ Below B w w' ∧ KeepT w w' ∧ KeepM w w' := by
  have hp := put_lawP S B g q off (.slice none 0 0) [] true w hq hi hsm hB (Rd.nil _ _) (by decide) (fun x hx => by simp at hx) ho
  go_enter Try.func23, Try.ntmps23
  go_wp2_with fail
  (with_reducible refine hp.mono ?_)
  rintro e w1 ⟨rfl, h1, h2, h3, h4⟩
  go_wp2_with fail
  go_ret
  exact ⟨rfl, h1, h2, h3, h4⟩
set_option maxHeartbeats 8000000 in
set_option maxRecDepth 100000 in
theorem close_nilq (off : Int) (w : World) : Calls Try.prog 23 #[.pointer none, .int .u64 off] w fun e w' => e = .returned (.int .i64 6) ∧ w = w' := by
  have hp := put_nilq off (.slice none 0 0) [] true w (Rd.nil _ _)
  go_enter Try.func23, Try.ntmps23
  go_wp2_with fail
  (with_reducible refine hp.mono ?_)
  rintro e w1 ⟨rfl, rfl⟩
  go_wp2_with fail
  go_ret
  exact ⟨rfl, rfl⟩
theorem rput_ok (g mb : Nat) (es : List (Int × Int)) (q : Q) (off : Int) (v : Value) (l : List Int) (en : Bool) (w : World) (hX : RX w g mb es q) (hr : RdT w v l) (hby : BytesOk l) (hl : l.length ≤ 1000) (ho : 0 ≤ off) (hsm : es.length ≤ 900000) (hh : 0 ≤ q.hi ∧ q.hi ≤ QM) (he : q.err off l en = 0) :
    Calls Try.prog 24 #[.pointer (some ⟨g, 0, none⟩), .int .u64 off, v, .bool en] w fun e w' => e = .returned (.int .i64 0) ∧ RX w' g mb (addN es off l l.length) (q.put off l en) ∧ ∃ wm, w.grownBy wm (some mb) ∧ wm.grownBy w' (some g) ∧ Blk wm g 59 #[.map (some mb), .int .u64 q.rd, .int .u64 q.hi, .int .u64 q.la, .bool q.kn] := by
  cases hk : q.kn with
  | true =>
    rw [← hk]
    cases en with
    | true => exact rput_ok11 g mb es q off v l w hX hk hr hby hl ho hsm hh he
    | false => exact rput_ok10 g mb es q off v l w hX hk hr hby hl ho hsm hh he
  | false =>
    rw [← hk]
    cases en with
    | true => exact rput_ok01 g mb es q off v l w hX hk hr hby hl ho hsm hh he
    | false => exact rput_ok00 g mb es q off v l w hX hk hr hby hl ho hsm hh he
/-- Both quilts in memory. -/
structure PX (B : Nat) (w : World) (gq gx mb : Nat) (es : List (Int × Int)) (q : Q) (S : Nat → Prop) : Prop where
  qp : QP S B w gq q
  rx : RX w gx mb es q
theorem PX.below {B : Nat} {w w' : World} {gq gx mb : Nat} {es : List (Int × Int)} {q : Q} {S : Nat → Prop} (h : PX B w gq gx mb es q S) (hb : Below w.heap.size w w') : PX B w' gq gx mb es q S := ⟨h.qp.below hb, h.rx.below hb⟩
/-- The reference's Put of any kind. -/
theorem rput_all (g mb : Nat) (es : List (Int × Int)) (q : Q) (off : Int) (v : Value) (l : List Int) (en : Bool) (w : World) (hX : RX w g mb es q) (hR : XR es q) (hI : QI q) (hr : RdT w v l) (hby : BytesOk l) (hl : l.length ≤ 1000) (ho : 0 ≤ off ∧ off ≤ 18446744073709551615) (hsm : es.length ≤ 900000) :
    Calls Try.prog 24 #[.pointer (some ⟨g, 0, none⟩), .int .u64 off, v, .bool en] w fun e w' => e = .returned (.int .i64 (q.err off l en)) ∧ ∃ es', RX w' g mb es' (q.put off l en) ∧ XR es' (q.put off l en) ∧ es'.length ≤ es.length + l.length ∧ ∃ wm, w.grownBy wm (some mb) ∧ wm.grownBy w' (some g) ∧ (∃ cs, Blk wm g 59 cs) := by
  by_cases he : q.err off l en = 0
  · refine (rput_ok g mb es q off v l en w hX hr hby hl ho.1 hsm ⟨hI.hi0, hI.hi1⟩ he).mono ?_
    rintro e w' ⟨rfl, h1, wm, h2, h3, h4⟩
    exact ⟨by rw [he], _, h1, xr_put hR hI ho.1 hby he, addN_len es off l _, wm, h2, h3, _, h4⟩
  · obtain ⟨A, c, rfl⟩ := hr.form
    refine (rput_no g mb es q off A l.length c en w hX hl ho _ rfl he).mono ?_
    rintro e w' ⟨rfl, rfl⟩
    have hp : q.put off l en = q := if_neg he
    rw [hp]
    exact ⟨rfl, es, hX, hR, by omega, w, grown_refl _ _, grown_refl _ _, _, hX.1⟩

end Go.Proofs.Ytpkondemkpogoaa
