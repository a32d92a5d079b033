/-
  bare.
  bare, empty.
  Plain: what right says; the greatest of nine.
-/
import Derived.Test.YtjijmbpgfabgcaaDoorZD
import Derived.Test.YtjijmbpgfabgcaaDoorZWbare0
import Derived.Test.YtjijmbpgfabgcaaDoorZWbare1
import Derived.Test.YtjijmbpgfabgcaaDoorZWbare2
namespace Go.Proofs.YtjijmbpgfabgcaaDoor
open Go.RowKit
set_option linter.unusedVariables false
set_option linter.unusedSimpArgs false

set_option maxHeartbeats 4000000 in
set_option maxRecDepth 100000 in
theorem bare10240 (kd id al : Int) (nA : Option Addr) (nl nc : Nat) (pr od sg so eg eo : Int) (sm : Bool) (cd : Int) (rA : Option Addr) (rl rc : Nat) (n ve : Int) (vA : Option Addr) (vl vc : Nat) (w : World) : Calls Tryd.prog 40 #[.agg #[.int .u64 kd, .int .u64 id, .int .u64 al, .slice nA nl nc, .int .u8 pr, .int .u8 od, .int .u64 sg, .int .u64 so, .int .u64 eg, .int .u64 eo, .bool sm, .int .u64 cd, .slice rA rl rc, .int .u64 n, .int .u64 ve, .slice vA vl vc], .int .i64 10240] w fun e w' => e = .returned (.agg #[.int .u64 0, .int .u64 (zf 10240 1 id 0), .int .u64 (zf 10240 2 al 0), zf 10240 4 (.slice nA nl nc) (.slice none 0 0), .int .u8 (zf 10240 8 pr 0), .int .u8 (zf 10240 16 od 0), .int .u64 (zf 10240 32 sg 0), .int .u64 (zf 10240 32 so 0), .int .u64 (zf 10240 192 eg 0), .int .u64 (zf 10240 192 eo 0), .bool (zf 10240 256 sm false), .int .u64 (zf 10240 512 cd 0), zf 10240 1024 (.slice rA rl rc) (.slice none 0 0), .int .u64 (zf 10240 2048 n 0), .int .u64 (zf 10240 4096 ve 0), zf 10240 8192 (.slice vA vl vc) (.slice none 0 0)]) ∧ Below w.heap.size w w' := by
  have hO := Blk.new w 31 #[.int .u64 kd, .int .u64 id, .int .u64 al, .slice nA nl nc, .int .u8 pr, .int .u8 od, .int .u64 sg, .int .u64 so, .int .u64 eg, .int .u64 eo, .bool sm, .int .u64 cd, .slice rA rl rc, .int .u64 n, .int .u64 ve, .slice vA vl vc]
  have hB := (Below.refl w.heap.size w).alloc (Nat.le_refl _) (.cells #[.int .u64 kd, .int .u64 id, .int .u64 al, .slice nA nl nc, .int .u8 pr, .int .u8 od, .int .u64 sg, .int .u64 so, .int .u64 eg, .int .u64 eo, .bool sm, .int .u64 cd, .slice rA rl rc, .int .u64 n, .int .u64 ve, .slice vA vl vc] 31)
  go_enter Tryd.func40, Tryd.ntmps40
  go_wp2_with fail
  refine bodyPost_ret (by simp [results, Tryd.results40, go_sem]; rfl) rfl ?_
  refine ⟨rfl, ?_⟩
  repeat (first | with_reducible exact Below.refl _ _ | with_reducible refine Below.setCell ?_ (by simp) _ | with_reducible refine Below.alloc ?_ (by simp) _)
set_option maxHeartbeats 4000000 in
set_option maxRecDepth 100000 in
theorem bare6144 (kd id al : Int) (nA : Option Addr) (nl nc : Nat) (pr od sg so eg eo : Int) (sm : Bool) (cd : Int) (rA : Option Addr) (rl rc : Nat) (n ve : Int) (vA : Option Addr) (vl vc : Nat) (w : World) : Calls Tryd.prog 40 #[.agg #[.int .u64 kd, .int .u64 id, .int .u64 al, .slice nA nl nc, .int .u8 pr, .int .u8 od, .int .u64 sg, .int .u64 so, .int .u64 eg, .int .u64 eo, .bool sm, .int .u64 cd, .slice rA rl rc, .int .u64 n, .int .u64 ve, .slice vA vl vc], .int .i64 6144] w fun e w' => e = .returned (.agg #[.int .u64 0, .int .u64 (zf 6144 1 id 0), .int .u64 (zf 6144 2 al 0), zf 6144 4 (.slice nA nl nc) (.slice none 0 0), .int .u8 (zf 6144 8 pr 0), .int .u8 (zf 6144 16 od 0), .int .u64 (zf 6144 32 sg 0), .int .u64 (zf 6144 32 so 0), .int .u64 (zf 6144 192 eg 0), .int .u64 (zf 6144 192 eo 0), .bool (zf 6144 256 sm false), .int .u64 (zf 6144 512 cd 0), zf 6144 1024 (.slice rA rl rc) (.slice none 0 0), .int .u64 (zf 6144 2048 n 0), .int .u64 (zf 6144 4096 ve 0), zf 6144 8192 (.slice vA vl vc) (.slice none 0 0)]) ∧ Below w.heap.size w w' := by
  have hO := Blk.new w 31 #[.int .u64 kd, .int .u64 id, .int .u64 al, .slice nA nl nc, .int .u8 pr, .int .u8 od, .int .u64 sg, .int .u64 so, .int .u64 eg, .int .u64 eo, .bool sm, .int .u64 cd, .slice rA rl rc, .int .u64 n, .int .u64 ve, .slice vA vl vc]
  have hB := (Below.refl w.heap.size w).alloc (Nat.le_refl _) (.cells #[.int .u64 kd, .int .u64 id, .int .u64 al, .slice nA nl nc, .int .u8 pr, .int .u8 od, .int .u64 sg, .int .u64 so, .int .u64 eg, .int .u64 eo, .bool sm, .int .u64 cd, .slice rA rl rc, .int .u64 n, .int .u64 ve, .slice vA vl vc] 31)
  go_enter Tryd.func40, Tryd.ntmps40
  go_wp2_with fail
  refine bodyPost_ret (by simp [results, Tryd.results40, go_sem]; rfl) rfl ?_
  refine ⟨rfl, ?_⟩
  repeat (first | with_reducible exact Below.refl _ _ | with_reducible refine Below.setCell ?_ (by simp) _ | with_reducible refine Below.alloc ?_ (by simp) _)

end Go.Proofs.YtjijmbpgfabgcaaDoor
namespace Go.Proofs.YtjijmbpgfabgcaaDoor
open Go.RowKit
set_option linter.unusedVariables false
set_option linter.unusedSimpArgs false

theorem zf_sl (P b : Int) (A : Option Addr) (n c : Nat) : zf P b (Value.slice A n c) (.slice none 0 0) = .slice (zf P b A none) (zf P b n 0) (zf P b c 0) := by unfold zf; split <;> rfl
set_option maxHeartbeats 4000000 in
set_option maxRecDepth 100000 in
theorem bare_all (P : Int) (kd id al : Int) (nA : Option Addr) (nl nc : Nat) (pr od sg so eg eo : Int) (sm : Bool) (cd : Int) (rA : Option Addr) (rl rc : Nat) (n ve : Int) (vA : Option Addr) (vl vc : Nat) (w : World) (hS : P ∈ SH) : Calls Tryd.prog 40 #[.agg #[.int .u64 kd, .int .u64 id, .int .u64 al, .slice nA nl nc, .int .u8 pr, .int .u8 od, .int .u64 sg, .int .u64 so, .int .u64 eg, .int .u64 eo, .bool sm, .int .u64 cd, .slice rA rl rc, .int .u64 n, .int .u64 ve, .slice vA vl vc], .int .i64 P] w fun e w' => e = .returned (.agg #[.int .u64 0, .int .u64 (zf P 1 id 0), .int .u64 (zf P 2 al 0), .slice (zf P 4 nA none) (zf P 4 nl 0) (zf P 4 nc 0), .int .u8 (zf P 8 pr 0), .int .u8 (zf P 16 od 0), .int .u64 (zf P 32 sg 0), .int .u64 (zf P 32 so 0), .int .u64 (zf P 192 eg 0), .int .u64 (zf P 192 eo 0), .bool (zf P 256 sm false), .int .u64 (zf P 512 cd 0), .slice (zf P 1024 rA none) (zf P 1024 rl 0) (zf P 1024 rc 0), .int .u64 (zf P 2048 n 0), .int .u64 (zf P 4096 ve 0), .slice (zf P 8192 vA none) (zf P 8192 vl 0) (zf P 8192 vc 0)]) ∧ Below w.heap.size w w' := by
  rw [← zf_sl, ← zf_sl, ← zf_sl]
  simp only [SH, List.mem_cons, List.not_mem_nil, or_false] at hS
  rcases hS with rfl | rfl | rfl | rfl | rfl | rfl | rfl | rfl | rfl | rfl | rfl
  · exact bare191 kd id al nA nl nc pr od sg so eg eo sm cd rA rl rc n ve vA vl vc w
  · exact bare289 kd id al nA nl nc pr od sg so eg eo sm cd rA rl rc n ve vA vl vc w
  · exact bare1537 kd id al nA nl nc pr od sg so eg eo sm cd rA rl rc n ve vA vl vc w
  · exact bare5 kd id al nA nl nc pr od sg so eg eo sm cd rA rl rc n ve vA vl vc w
  · exact bare1 kd id al nA nl nc pr od sg so eg eo sm cd rA rl rc n ve vA vl vc w
  · exact bare4 kd id al nA nl nc pr od sg so eg eo sm cd rA rl rc n ve vA vl vc w
  · exact bare0 kd id al nA nl nc pr od sg so eg eo sm cd rA rl rc n ve vA vl vc w
  · exact bare2048 kd id al nA nl nc pr od sg so eg eo sm cd rA rl rc n ve vA vl vc w
  · exact bare109 kd id al nA nl nc pr od sg so eg eo sm cd rA rl rc n ve vA vl vc w
  · exact bare10240 kd id al nA nl nc pr od sg so eg eo sm cd rA rl rc n ve vA vl vc w
  · exact bare6144 kd id al nA nl nc pr od sg so eg eo sm cd rA rl rc n ve vA vl vc w
def Emp (id al : Int) (nl : Nat) (pr od sg so eg eo : Int) (sm : Bool) (cd : Int) (rl : Nat) (n ve : Int) (vl : Nat) : Bool := decide (id = 0 ∧ al = 0 ∧ nl = 0 ∧ pr = 0 ∧ od = 0 ∧ sg = 0 ∧ so = 0 ∧ eg = 0 ∧ eo = 0 ∧ sm = false ∧ cd = 0 ∧ rl = 0 ∧ n = 0 ∧ ve = 0 ∧ vl = 0)
set_option maxHeartbeats 4000000 in
set_option maxRecDepth 100000 in
theorem empty_all (kd id al : Int) (nA : Option Addr) (nl nc : Nat) (pr od sg so eg eo : Int) (sm : Bool) (cd : Int) (rA : Option Addr) (rl rc : Nat) (n ve : Int) (vA : Option Addr) (vl vc : Nat) (w : World) (hkd : 0 ≤ kd ∧ kd ≤ 18446744073709551615) (hid : 0 ≤ id ∧ id ≤ 18446744073709551615) (hal : 0 ≤ al ∧ al ≤ 18446744073709551615) (hsg : 0 ≤ sg ∧ sg ≤ 18446744073709551615) (hso : 0 ≤ so ∧ so ≤ 18446744073709551615) (heg : 0 ≤ eg ∧ eg ≤ 18446744073709551615) (heo : 0 ≤ eo ∧ eo ≤ 18446744073709551615) (hcd : 0 ≤ cd ∧ cd ≤ 18446744073709551615) (hn : 0 ≤ n ∧ n ≤ 18446744073709551615) (hve : 0 ≤ ve ∧ ve ≤ 18446744073709551615) (hpr : 0 ≤ pr ∧ pr ≤ 255) (hod : 0 ≤ od ∧ od ≤ 255) (hnl : nl ≤ 100000) (hrl : rl ≤ 100000) (hvl : vl ≤ 100000) : Calls Tryd.prog 39 #[.agg #[.int .u64 kd, .int .u64 id, .int .u64 al, .slice nA nl nc, .int .u8 pr, .int .u8 od, .int .u64 sg, .int .u64 so, .int .u64 eg, .int .u64 eo, .bool sm, .int .u64 cd, .slice rA rl rc, .int .u64 n, .int .u64 ve, .slice vA vl vc]] w fun e w' => e = .returned (.bool (Emp id al nl pr od sg so eg eo sm cd rl n ve vl)) ∧ Below w.heap.size w w' := by
  have o1 := or64 id al hid hal
  have o2 := or64 _ cd o1.1 hcd
  have o3 := or64 _ n o2.1 hn
  have o4 := or64 _ ve o3.1 hve
  have q1 : bits .or .u64 (bits .or .u64 (bits .or .u64 (bits .or .u64 id al) cd) n) ve = 0 ↔ id = 0 ∧ al = 0 ∧ cd = 0 ∧ n = 0 ∧ ve = 0 := by
    rw [o4.2, o3.2, o2.2, o1.2]; simp only [and_assoc]
  have q2 := or8 pr od hpr hod
  clear o1 o2 o3 o4 hid hal hcd hn hve hkd hsg hso heg heo
  by_cases g0 : id = 0 ∧ al = 0 ∧ cd = 0 ∧ n = 0 ∧ ve = 0
  · obtain ⟨rfl, rfl, rfl, rfl, rfl⟩ := g0
    by_cases g1 : nl = 0 ∧ rl = 0 ∧ vl = 0
    · obtain ⟨rfl, rfl, rfl⟩ := g1
      by_cases g2 : pr = 0 ∧ od = 0
      · obtain ⟨rfl, rfl⟩ := g2
        by_cases g3 : sg = 0 ∧ so = 0
        · obtain ⟨rfl, rfl⟩ := g3
          by_cases g4 : eg = 0 ∧ eo = 0
          · obtain ⟨rfl, rfl⟩ := g4
            by_cases g5 : sm = false
            · subst g5
              go_enter Tryd.func39, Tryd.ntmps39
              go_wp2_with fail
              all_goals go_ret
              all_goals refine ⟨?_, by repeat (first | with_reducible exact Below.refl _ _ | with_reducible refine Below.alloc ?_ (by simp) _)⟩
              simp [Emp]
              try exact ⟨rfl, rfl⟩
            · as_aux_lemma =>
                obtain rfl : sm = true := by simpa using g5
                go_enter Tryd.func39, Tryd.ntmps39
                go_wp2_with fail
                all_goals go_ret
                all_goals refine ⟨?_, by repeat (first | with_reducible exact Below.refl _ _ | with_reducible refine Below.alloc ?_ (by simp) _)⟩
                all_goals simp [Emp]
                all_goals try omega
          · as_aux_lemma =>
              go_enter Tryd.func39, Tryd.ntmps39
              go_wp2_with fail
              all_goals go_ret
              all_goals refine ⟨?_, by repeat (first | with_reducible exact Below.refl _ _ | with_reducible refine Below.alloc ?_ (by simp) _)⟩
              all_goals simp [Emp]
              all_goals try omega
        · as_aux_lemma =>
            go_enter Tryd.func39, Tryd.ntmps39
            go_wp2_with fail
            all_goals go_ret
            all_goals refine ⟨?_, by repeat (first | with_reducible exact Below.refl _ _ | with_reducible refine Below.alloc ?_ (by simp) _)⟩
            all_goals simp [Emp]
            all_goals try omega
      · as_aux_lemma =>
          have q2' := mt q2.1 g2
          go_enter Tryd.func39, Tryd.ntmps39
          go_wp2_with fail
          all_goals go_ret
          all_goals refine ⟨?_, by repeat (first | with_reducible exact Below.refl _ _ | with_reducible refine Below.alloc ?_ (by simp) _)⟩
          all_goals simp [Emp]
          all_goals try omega
    · as_aux_lemma =>
        have q1' : ¬ (nl + rl + vl = 0) := by omega
        go_enter Tryd.func39, Tryd.ntmps39
        go_wp2_with fail
        all_goals go_ret
        all_goals refine ⟨?_, by repeat (first | with_reducible exact Below.refl _ _ | with_reducible refine Below.alloc ?_ (by simp) _)⟩
        all_goals simp [Emp]
        all_goals try omega
  · as_aux_lemma =>
      have q1' := mt q1.1 g0
      go_enter Tryd.func39, Tryd.ntmps39
      go_wp2_with fail
      all_goals go_ret
      all_goals refine ⟨?_, by repeat (first | with_reducible exact Below.refl _ _ | with_reducible refine Below.alloc ?_ (by simp) _)⟩
      all_goals simp [Emp]
      all_goals try omega

end Go.Proofs.YtjijmbpgfabgcaaDoor
namespace Go.Proofs.YtjijmbpgfabgcaaDoor
open Go.RowKit
set_option linter.unusedVariables false
set_option linter.unusedSimpArgs false

def NumsOk (l : List Int) : Prop := ∀ x ∈ l, 0 ≤ x ∧ x ≤ 18446744073709551615
theorem NumsOk.getD {l : List Int} (h : NumsOk l) (i : Nat) : 0 ≤ l.getD i 0 ∧ l.getD i 0 ≤ 18446744073709551615 := by
  by_cases hi : i < l.length
  · have := h (l[i]) (List.getElem_mem hi)
    simpa [List.getD, hi] using this
  · simp [List.getD, hi]
def maxL (l : List Int) : Int := l.foldl max 0
theorem take_snocT (l : List Int) (k : Nat) (h : k < l.length) : l.take (k + 1) = l.take k ++ [l.getD k 0] := by
  rw [List.take_succ_eq_append_getElem h]; simp [h]
theorem maxL_snoc (l : List Int) (x : Int) : maxL (l ++ [x]) = max (maxL l) x := by simp [maxL]
theorem maxL_ok {l : List Int} (h : NumsOk l) : 0 ≤ maxL l ∧ maxL l ≤ 18446744073709551615 := by
  suffices H : ∀ a : Int, 0 ≤ a → a ≤ 18446744073709551615 → 0 ≤ l.foldl max a ∧ l.foldl max a ≤ 18446744073709551615 from H 0 (by omega) (by omega)
  induction l with
  | nil => intro a h0 h1; exact ⟨h0, h1⟩
  | cons x r ih =>
    intro a h0 h1
    have hx := h x (by simp)
    exact ih (fun y hy => h y (by simp [hy])) (max a x) (by omega) (by omega)

set_option maxHeartbeats 2000000 in
theorem max_any (v : Value) (l : List Int) (w : World) (hl : Rd w .u64 v l) (hk : NumsOk l) (hne : 0 < l.length) :
    Calls Tryd.prog 41 #[v] w fun e w' => e = .returned (.int .u64 (maxL l)) ∧ w = w' := by
  obtain ⟨A, cap, rfl⟩ := hl.form
  have hm : l.length ≤ 9223372036854775807 := by have := hl.rdv.2.2; unfold maxLen at this; omega
  obtain ⟨b, off, rfl, hb, c0⟩ := hl.at_ 0 hne
  rw [Nat.add_zero] at c0
  have h1 : maxL (l.take 1) = l.getD 0 0 := by
    have := take_snocT l 0 hne
    rw [this]
    have h0 := (hk.getD 0).1
    simp only [List.take_zero, List.nil_append, maxL, List.foldl_cons, List.foldl_nil]
    omega
  obtain ⟨x0, hx0⟩ : ∃ x0, x0 = l.getD 0 0 := ⟨_, rfl⟩
  rw [← hx0] at h1 c0
  have H1 := Lib.hid h1
  clear h1 hx0
  have hlen : ¬(l.length : Int) < 1 := by omega
  go_enter Tryd.func41, Tryd.ntmps41
  go_wp2_with fail
  go_loop [3, 4] (fun m i => ∃ k : Nat, 1 ≤ k ∧ k ≤ l.length ∧ i = .int .i64 k ∧ m = .int .u64 (maxL (l.take k))) (fun _ i => l.length - (intOf i).toNat)
  case atStart => exact ⟨1, Nat.le_refl _, hne, rfl, by rw [H1.out]⟩
  case round =>
    obtain ⟨k, hk1, hkl, rfl, rfl⟩ := hrel
    by_cases hlt : k < l.length
    · obtain ⟨b', off', e, _, ck⟩ := hl.at_ k hlt
      simp only [Option.some.injEq, Addr.mk.injEq, and_true] at e
      obtain ⟨rfl, rfl⟩ := e
      obtain ⟨x, hx⟩ : ∃ x, x = l.getD k 0 := ⟨_, rfl⟩
      rw [← hx] at ck
      have hs : maxL (l.take (k + 1)) = max (maxL (l.take k)) x := by rw [take_snocT l k hlt, maxL_snoc, ← hx]
      obtain ⟨m, hmm⟩ : ∃ m, m = maxL (l.take k) := ⟨_, rfl⟩
      rw [← hmm] at hs ⊢
      have hcase : (m < x ∧ maxL (l.take (k + 1)) = x) ∨ (x ≤ m ∧ maxL (l.take (k + 1)) = m) := by omega
      clear hs hmm hx
      rcases hcase with ⟨h1, h2⟩ | ⟨h1, h2⟩
      all_goals
        have H2 := Lib.hid h2
        clear h2
        go_wp2_with fail
        go_round
        case rel => exact ⟨k + 1, by omega, by omega, by go_num, by rw [H2.out]⟩
        case measure => simp [intOf]; omega
    · go_wp2
      go_ret
      exact ⟨by rw [List.take_of_length_le (by omega)]; rfl, rfl⟩

def mx2 (a b : Int) : Int := if b > a then b else a
theorem mx2_big (a b : Int) : (4611686018427387903 < mx2 a b) ↔ (4611686018427387903 < a ∨ 4611686018427387903 < b) := by unfold mx2; split <;> omega
theorem max9 (P : Program) (id al cd n ve sg so eg eo : Int) : ∃ m : Int, (4611686018427387903 < m ↔ 4611686018427387903 < id ∨ 4611686018427387903 < al ∨ 4611686018427387903 < cd ∨ 4611686018427387903 < n ∨ 4611686018427387903 < ve ∨ 4611686018427387903 < sg ∨ 4611686018427387903 < so ∨ 4611686018427387903 < eg ∨ 4611686018427387903 < eo) ∧ ∀ W : World, (Builtin.max_ #[22, 22, 22, 22, 22, 22, 22, 22, 22] 22 #[.int .u64 id, .int .u64 al, .int .u64 cd, .int .u64 n, .int .u64 ve, .int .u64 sg, .int .u64 so, .int .u64 eg, .int .u64 eo] : Sem _).run P W = .ok (.int .u64 m) W := by
  refine ⟨(mx2 (mx2 (mx2 (mx2 (mx2 (mx2 (mx2 (mx2 id al) cd) n) ve) sg) so) eg) eo), ?_, fun W => ?_⟩
  · simp only [mx2_big, or_assoc]
  · simp [Builtin.max_, Builtin.max2, mx2]
/-- Whether a message with these parts is right. -/
def Zer (P id al : Int) (nl : Nat) (pr od sg so eg eo : Int) (sm : Bool) (cd : Int) (rl : Nat) (n ve : Int) (vl : Nat) : Bool :=
  Emp (zf P 1 id 0) (zf P 2 al 0) (zf P 4 nl 0) (zf P 8 pr 0) (zf P 16 od 0) (zf P 32 sg 0) (zf P 32 so 0) (zf P 192 eg 0) (zf P 192 eo 0) (zf P 256 sm false) (zf P 512 cd 0) (zf P 1024 rl 0) (zf P 2048 n 0) (zf P 4096 ve 0) (zf P 8192 vl 0)
def RtB (P id al : Int) (nm : List Int) (pr od sg so eg eo : Int) (sm : Bool) (cd : Int) (rl : Nat) (n ve : Int) (vs : List Int) : Bool := decide
  (Zer P id al nm.length pr od sg so eg eo sm cd rl n ve vs.length = true ∧ rl ≤ 64 ∧ ¬ (4611686018427387903 < id ∨ 4611686018427387903 < al ∨ 4611686018427387903 < cd ∨ 4611686018427387903 < n ∨ 4611686018427387903 < ve ∨ 4611686018427387903 < sg ∨ 4611686018427387903 < so ∨ 4611686018427387903 < eg ∨ 4611686018427387903 < eo) ∧
   (bits .and .i64 P 4 = 0 ∨ (nm.length ≠ 0 ∧ nm.length ≤ 32 ∧ nm.getD (nm.length - 1) 0 ≠ 0)) ∧
   (bits .and .i64 P 16 = 0 ∨ od = 1 ∨ od = 2) ∧
   (bits .and .i64 P 128 = 0 ∨ (eo = 0 ∧ (eg = 0 ∨ sg < eg))) ∧
   (bits .and .i64 P 64 = 0 ∨ ltP eg eo sg so = false) ∧
   (bits .and .i64 P 256 = 0 ∨ sm = true ∨ (sg = 0 ∧ so = 0)) ∧
   (bits .and .i64 P 8192 = 0 ∨ (vs.length ≠ 0 ∧ vs.length ≤ 8 ∧ ¬ 4611686018427387903 < maxL vs)))
theorem zf_rng {P b x lo hi : Int} (h : lo ≤ x ∧ x ≤ hi) (h0 : lo ≤ 0 ∧ 0 ≤ hi) : lo ≤ zf P b x 0 ∧ zf P b x 0 ≤ hi := by unfold zf; split <;> assumption
theorem zf_le {P b : Int} {x hi : Nat} (h : x ≤ hi) : zf P b x 0 ≤ hi := by unfold zf; split <;> omega

end Go.Proofs.YtjijmbpgfabgcaaDoor
