/-
  A message in memory; right and fields of a pen, for every message. No condition.
  What Bytes of a message gives. No condition.
-/
import Derived.Test.YtjijmbpgfabgcaaDoorZWright0
import Derived.Test.YtjijmbpgfabgcaaDoorZWright1
import Derived.Test.YtjijmbpgfabgcaaDoorZWright2
import Derived.Test.YtjijmbpgfabgcaaDoorZWright3
import Derived.Test.YtjijmbpgfabgcaaDoorZF
import Derived.Test.YtjijmbpgfabgcaaDoorZWf0
import Derived.Test.YtjijmbpgfabgcaaDoorZWf1
import Derived.Test.YtjijmbpgfabgcaaDoorZP
import Derived.Test.YtjijmbpgfabgcaaDoorZWf3
import Derived.Test.YtjijmbpgfabgcaaDoorZH
import Derived.Test.YtjijmbpgfabgcaaDoorZG
namespace Go.Proofs.YtjijmbpgfabgcaaDoor
open Go.RowKit
set_option linter.unusedVariables false
set_option linter.unusedSimpArgs false

/-- A message's cells, its texts' values given. -/
abbrev M.cells (m : M) (nv rv vv : Value) : Array Value := #[.int .u64 m.kd, .int .u64 m.id, .int .u64 m.al, nv, .int .u8 m.pr, .int .u8 m.od, .int .u64 m.sg, .int .u64 m.so, .int .u64 m.eg, .int .u64 m.eo, .bool m.sm, .int .u64 m.cd, rv, .int .u64 m.n, .int .u64 m.ve, vv]
/-- A message's texts are read. -/
structure MV (w : World) (m : M) (nv rv vv : Value) : Prop where
  nm : Rd w .u8 nv m.nm
  rs : Rd w .u8 rv m.rs
  vs : Rd w .u64 vv m.vs
theorem MV.below {w w' : World} {m : M} {nv rv vv : Value} (h : MV w m nv rv vv) (hb : Below w.heap.size w w') : MV w' m nv rv vv := ⟨h.nm.below hb, h.rs.below hb, h.vs.below hb⟩
/-- The texts aren't too long. -/
def M.Fit (m : M) : Prop := m.nm.length ≤ 100000 ∧ m.rs.length ≤ 100000 ∧ m.vs.length ≤ 100000
set_option maxHeartbeats 4000000 in
set_option maxRecDepth 100000 in
theorem right_none (m : M) (nv rv vv : Value) (w : World) (hG : Glob w) (hk : (prt m.kd).2 = false) :
    Calls Tryd.prog 25 #[.agg (m.cells nv rv vv)] w fun e w' => e = .returned (.bool false) ∧ Below w.heap.size w w' := by
  unfold M.cells
  have hO0 := Blk.new w 31 #[.int .u64 m.kd, .int .u64 m.id, .int .u64 m.al, nv, .int .u8 m.pr, .int .u8 m.od, .int .u64 m.sg, .int .u64 m.so, .int .u64 m.eg, .int .u64 m.eo, .bool m.sm, .int .u64 m.cd, rv, .int .u64 m.n, .int .u64 m.ve, vv]
  have hB0 := (Below.refl w.heap.size w).alloc (Nat.le_refl _) (.cells #[.int .u64 m.kd, .int .u64 m.id, .int .u64 m.al, nv, .int .u8 m.pr, .int .u8 m.od, .int .u64 m.sg, .int .u64 m.so, .int .u64 m.eg, .int .u64 m.eo, .bool m.sm, .int .u64 m.cd, rv, .int .u64 m.n, .int .u64 m.ve, vv] 31)
  have hG0 := hG.same hB0
  have a0 : World.cell? _ ⟨w.heap.size, 0, none⟩ = some (.int .u64 m.kd) := hO0.cell 0
  go_enter Tryd.func25, Tryd.ntmps25
  go_wp2_with fail
  (with_reducible refine (parts_all m.kd _ hG0).mono ?_)
  rintro e w1 ⟨rfl, hb1⟩
  rw [hk]
  simp only []
  go_wp2_with fail
  go_ret
  exact ⟨rfl, hB0.trans (hb1.mono hB0.size)⟩
theorem right_all (m : M) (nv rv vv : Value) (w : World) (hG : Glob w) (hM : MV w m nv rv vv) (h : m.Ok) (hf : m.Fit) :
    Calls Tryd.prog 25 #[.agg (m.cells nv rv vv)] w fun e w' => e = .returned (.bool (rt m)) ∧ Below w.heap.size w w' := by
  cases hk : (prt m.kd).2 with
  | false =>
    have := right_none m nv rv vv w hG hk
    simpa [rt, hk] using this
  | true =>
    obtain ⟨nA, nc, rfl⟩ := hM.nm.form
    obtain ⟨rA, rc, rfl⟩ := hM.rs.form
    obtain ⟨vA, vc, rfl⟩ := hM.vs.form
    have hm := prt_mem m.kd hk
    have e : rt m = RtB (prt m.kd).1 m.id m.al m.nm m.pr m.od m.sg m.so m.eg m.eo m.sm m.cd m.rs.length m.n m.ve m.vs := by simp [rt, hk]
    have hp : prt m.kd = ((prt m.kd).1, true) := by rw [← hk]
    rw [e]
    generalize (prt m.kd).1 = P at hm hp ⊢
    simp only [SH, List.mem_cons, List.not_mem_nil, or_false] at hm
    rcases hm with rfl | rfl | rfl | rfl | rfl | rfl | rfl | rfl | rfl | rfl | rfl
    · exact right191 m.kd m.id m.al nA m.nm.length nc m.pr m.od m.sg m.so m.eg m.eo m.sm m.cd rA m.rs.length rc m.n m.ve vA m.vs.length vc m.nm m.vs w hp hG h.kd h.id h.al h.sg h.so h.eg h.eo h.cd h.n h.ve h.pr h.od hM.nm hM.vs h.nm h.vs hf.1 hf.2.1 hf.2.2
    · exact right289 m.kd m.id m.al nA m.nm.length nc m.pr m.od m.sg m.so m.eg m.eo m.sm m.cd rA m.rs.length rc m.n m.ve vA m.vs.length vc m.nm m.vs w hp hG h.kd h.id h.al h.sg h.so h.eg h.eo h.cd h.n h.ve h.pr h.od hM.nm hM.vs h.nm h.vs hf.1 hf.2.1 hf.2.2
    · exact right1537 m.kd m.id m.al nA m.nm.length nc m.pr m.od m.sg m.so m.eg m.eo m.sm m.cd rA m.rs.length rc m.n m.ve vA m.vs.length vc m.nm m.vs w hp hG h.kd h.id h.al h.sg h.so h.eg h.eo h.cd h.n h.ve h.pr h.od hM.nm hM.vs h.nm h.vs hf.1 hf.2.1 hf.2.2
    · exact right5 m.kd m.id m.al nA m.nm.length nc m.pr m.od m.sg m.so m.eg m.eo m.sm m.cd rA m.rs.length rc m.n m.ve vA m.vs.length vc m.nm m.vs w hp hG h.kd h.id h.al h.sg h.so h.eg h.eo h.cd h.n h.ve h.pr h.od hM.nm hM.vs h.nm h.vs hf.1 hf.2.1 hf.2.2
    · exact right1 m.kd m.id m.al nA m.nm.length nc m.pr m.od m.sg m.so m.eg m.eo m.sm m.cd rA m.rs.length rc m.n m.ve vA m.vs.length vc m.nm m.vs w hp hG h.kd h.id h.al h.sg h.so h.eg h.eo h.cd h.n h.ve h.pr h.od hM.nm hM.vs h.nm h.vs hf.1 hf.2.1 hf.2.2
    · exact right4 m.kd m.id m.al nA m.nm.length nc m.pr m.od m.sg m.so m.eg m.eo m.sm m.cd rA m.rs.length rc m.n m.ve vA m.vs.length vc m.nm m.vs w hp hG h.kd h.id h.al h.sg h.so h.eg h.eo h.cd h.n h.ve h.pr h.od hM.nm hM.vs h.nm h.vs hf.1 hf.2.1 hf.2.2
    · exact right0 m.kd m.id m.al nA m.nm.length nc m.pr m.od m.sg m.so m.eg m.eo m.sm m.cd rA m.rs.length rc m.n m.ve vA m.vs.length vc m.nm m.vs w hp hG h.kd h.id h.al h.sg h.so h.eg h.eo h.cd h.n h.ve h.pr h.od hM.nm hM.vs h.nm h.vs hf.1 hf.2.1 hf.2.2
    · exact right2048 m.kd m.id m.al nA m.nm.length nc m.pr m.od m.sg m.so m.eg m.eo m.sm m.cd rA m.rs.length rc m.n m.ve vA m.vs.length vc m.nm m.vs w hp hG h.kd h.id h.al h.sg h.so h.eg h.eo h.cd h.n h.ve h.pr h.od hM.nm hM.vs h.nm h.vs hf.1 hf.2.1 hf.2.2
    · exact right109 m.kd m.id m.al nA m.nm.length nc m.pr m.od m.sg m.so m.eg m.eo m.sm m.cd rA m.rs.length rc m.n m.ve vA m.vs.length vc m.nm m.vs w hp hG h.kd h.id h.al h.sg h.so h.eg h.eo h.cd h.n h.ve h.pr h.od hM.nm hM.vs h.nm h.vs hf.1 hf.2.1 hf.2.2
    · exact right10240 m.kd m.id m.al nA m.nm.length nc m.pr m.od m.sg m.so m.eg m.eo m.sm m.cd rA m.rs.length rc m.n m.ve vA m.vs.length vc m.nm m.vs w hp hG h.kd h.id h.al h.sg h.so h.eg h.eo h.cd h.n h.ve h.pr h.od hM.nm hM.vs h.nm h.vs hf.1 hf.2.1 hf.2.2
    · exact right6144 m.kd m.id m.al nA m.nm.length nc m.pr m.od m.sg m.so m.eg m.eo m.sm m.cd rA m.rs.length rc m.n m.ve vA m.vs.length vc m.nm m.vs w hp hG h.kd h.id h.al h.sg h.so h.eg h.eo h.cd h.n h.ve h.pr h.od hM.nm hM.vs h.nm h.vs hf.1 hf.2.1 hf.2.2
theorem fields_all (B pb : Nat) (m : M) (nv rv vv : Value) (P : Int) (w : World) (hP : P ∈ SH) (hPn : Pen B w pb []) (hBs : B ≤ w.heap.size) (hM : ∀ w', PenK B w w' → MV w' m nv rv vv) (h : m.Ok) (hs : small m) (hf : m.Fit) (hv : m.vs.length ≤ 20) :
    Calls Tryd.prog 27 #[.pointer (some ⟨pb, 0, none⟩), .agg (m.cells nv rv vv), .int .i64 P] w fun e w' => e = .returned (.tuple #[]) ∧ Pen B w' pb (fb m (shP P)) ∧ PenK B w w' := by
  obtain ⟨nA, nc, rfl⟩ := (hM w (PenK.refl hBs)).nm.form
  obtain ⟨rA, rc, rfl⟩ := (hM w (PenK.refl hBs)).rs.form
  obtain ⟨vA, vc, rfl⟩ := (hM w (PenK.refl hBs)).vs.form
  obtain ⟨s1, s2, s3, s4, s5, s6, s7, s8, s9, s10⟩ := (small_iff m).1 hs
  simp only [SH, List.mem_cons, List.not_mem_nil, or_false] at hP
  rcases hP with rfl | rfl | rfl | rfl | rfl | rfl | rfl | rfl | rfl | rfl | rfl
  · exact pf191 B pb m.kd m.id m.al nA m.nm.length nc m.pr m.od m.sg m.so m.eg m.eo m.sm m.cd rA m.rs.length rc m.n m.ve vA m.vs.length vc m.nm m.rs m.vs w hPn hBs (fun w' k => (hM w' k).nm) (fun w' k => (hM w' k).rs) (fun w' k => (hM w' k).vs) h.kd h.id h.al h.sg h.so h.eg h.eo h.cd h.n h.ve (vsz_some s1) (vsz_some s2) (vsz_some s6) (vsz_some s7) (vsz_some s8) (vsz_some s9) (vsz_some s3) (vsz_some s4) (vsz_some s5) hf.1 hf.2.1 hv h.vs (fun x hx => vsz_some (s10 x hx))
  · exact pf289 B pb m.kd m.id m.al nA m.nm.length nc m.pr m.od m.sg m.so m.eg m.eo m.sm m.cd rA m.rs.length rc m.n m.ve vA m.vs.length vc m.nm m.rs m.vs w hPn hBs (fun w' k => (hM w' k).nm) (fun w' k => (hM w' k).rs) (fun w' k => (hM w' k).vs) h.kd h.id h.al h.sg h.so h.eg h.eo h.cd h.n h.ve (vsz_some s1) (vsz_some s2) (vsz_some s6) (vsz_some s7) (vsz_some s8) (vsz_some s9) (vsz_some s3) (vsz_some s4) (vsz_some s5) hf.1 hf.2.1 hv h.vs (fun x hx => vsz_some (s10 x hx))
  · exact pf1537 B pb m.kd m.id m.al nA m.nm.length nc m.pr m.od m.sg m.so m.eg m.eo m.sm m.cd rA m.rs.length rc m.n m.ve vA m.vs.length vc m.nm m.rs m.vs w hPn hBs (fun w' k => (hM w' k).nm) (fun w' k => (hM w' k).rs) (fun w' k => (hM w' k).vs) h.kd h.id h.al h.sg h.so h.eg h.eo h.cd h.n h.ve (vsz_some s1) (vsz_some s2) (vsz_some s6) (vsz_some s7) (vsz_some s8) (vsz_some s9) (vsz_some s3) (vsz_some s4) (vsz_some s5) hf.1 hf.2.1 hv h.vs (fun x hx => vsz_some (s10 x hx))
  · exact pf5 B pb m.kd m.id m.al nA m.nm.length nc m.pr m.od m.sg m.so m.eg m.eo m.sm m.cd rA m.rs.length rc m.n m.ve vA m.vs.length vc m.nm m.rs m.vs w hPn hBs (fun w' k => (hM w' k).nm) (fun w' k => (hM w' k).rs) (fun w' k => (hM w' k).vs) h.kd h.id h.al h.sg h.so h.eg h.eo h.cd h.n h.ve (vsz_some s1) (vsz_some s2) (vsz_some s6) (vsz_some s7) (vsz_some s8) (vsz_some s9) (vsz_some s3) (vsz_some s4) (vsz_some s5) hf.1 hf.2.1 hv h.vs (fun x hx => vsz_some (s10 x hx))
  · exact pf1 B pb m.kd m.id m.al nA m.nm.length nc m.pr m.od m.sg m.so m.eg m.eo m.sm m.cd rA m.rs.length rc m.n m.ve vA m.vs.length vc m.nm m.rs m.vs w hPn hBs (fun w' k => (hM w' k).nm) (fun w' k => (hM w' k).rs) (fun w' k => (hM w' k).vs) h.kd h.id h.al h.sg h.so h.eg h.eo h.cd h.n h.ve (vsz_some s1) (vsz_some s2) (vsz_some s6) (vsz_some s7) (vsz_some s8) (vsz_some s9) (vsz_some s3) (vsz_some s4) (vsz_some s5) hf.1 hf.2.1 hv h.vs (fun x hx => vsz_some (s10 x hx))
  · exact pf4 B pb m.kd m.id m.al nA m.nm.length nc m.pr m.od m.sg m.so m.eg m.eo m.sm m.cd rA m.rs.length rc m.n m.ve vA m.vs.length vc m.nm m.rs m.vs w hPn hBs (fun w' k => (hM w' k).nm) (fun w' k => (hM w' k).rs) (fun w' k => (hM w' k).vs) h.kd h.id h.al h.sg h.so h.eg h.eo h.cd h.n h.ve (vsz_some s1) (vsz_some s2) (vsz_some s6) (vsz_some s7) (vsz_some s8) (vsz_some s9) (vsz_some s3) (vsz_some s4) (vsz_some s5) hf.1 hf.2.1 hv h.vs (fun x hx => vsz_some (s10 x hx))
  · exact pf0 B pb m.kd m.id m.al nA m.nm.length nc m.pr m.od m.sg m.so m.eg m.eo m.sm m.cd rA m.rs.length rc m.n m.ve vA m.vs.length vc m.nm m.rs m.vs w hPn hBs (fun w' k => (hM w' k).nm) (fun w' k => (hM w' k).rs) (fun w' k => (hM w' k).vs) h.kd h.id h.al h.sg h.so h.eg h.eo h.cd h.n h.ve (vsz_some s1) (vsz_some s2) (vsz_some s6) (vsz_some s7) (vsz_some s8) (vsz_some s9) (vsz_some s3) (vsz_some s4) (vsz_some s5) hf.1 hf.2.1 hv h.vs (fun x hx => vsz_some (s10 x hx))
  · exact pf2048 B pb m.kd m.id m.al nA m.nm.length nc m.pr m.od m.sg m.so m.eg m.eo m.sm m.cd rA m.rs.length rc m.n m.ve vA m.vs.length vc m.nm m.rs m.vs w hPn hBs (fun w' k => (hM w' k).nm) (fun w' k => (hM w' k).rs) (fun w' k => (hM w' k).vs) h.kd h.id h.al h.sg h.so h.eg h.eo h.cd h.n h.ve (vsz_some s1) (vsz_some s2) (vsz_some s6) (vsz_some s7) (vsz_some s8) (vsz_some s9) (vsz_some s3) (vsz_some s4) (vsz_some s5) hf.1 hf.2.1 hv h.vs (fun x hx => vsz_some (s10 x hx))
  · exact pf109 B pb m.kd m.id m.al nA m.nm.length nc m.pr m.od m.sg m.so m.eg m.eo m.sm m.cd rA m.rs.length rc m.n m.ve vA m.vs.length vc m.nm m.rs m.vs w hPn hBs (fun w' k => (hM w' k).nm) (fun w' k => (hM w' k).rs) (fun w' k => (hM w' k).vs) h.kd h.id h.al h.sg h.so h.eg h.eo h.cd h.n h.ve (vsz_some s1) (vsz_some s2) (vsz_some s6) (vsz_some s7) (vsz_some s8) (vsz_some s9) (vsz_some s3) (vsz_some s4) (vsz_some s5) hf.1 hf.2.1 hv h.vs (fun x hx => vsz_some (s10 x hx))
  · exact pf10240 B pb m.kd m.id m.al nA m.nm.length nc m.pr m.od m.sg m.so m.eg m.eo m.sm m.cd rA m.rs.length rc m.n m.ve vA m.vs.length vc m.nm m.rs m.vs w hPn hBs (fun w' k => (hM w' k).nm) (fun w' k => (hM w' k).rs) (fun w' k => (hM w' k).vs) h.kd h.id h.al h.sg h.so h.eg h.eo h.cd h.n h.ve (vsz_some s1) (vsz_some s2) (vsz_some s6) (vsz_some s7) (vsz_some s8) (vsz_some s9) (vsz_some s3) (vsz_some s4) (vsz_some s5) hf.1 hf.2.1 hv h.vs (fun x hx => vsz_some (s10 x hx))
  · exact pf6144 B pb m.kd m.id m.al nA m.nm.length nc m.pr m.od m.sg m.so m.eg m.eo m.sm m.cd rA m.rs.length rc m.n m.ve vA m.vs.length vc m.nm m.rs m.vs w hPn hBs (fun w' k => (hM w' k).nm) (fun w' k => (hM w' k).rs) (fun w' k => (hM w' k).vs) h.kd h.id h.al h.sg h.so h.eg h.eo h.cd h.n h.ve (vsz_some s1) (vsz_some s2) (vsz_some s6) (vsz_some s7) (vsz_some s8) (vsz_some s9) (vsz_some s3) (vsz_some s4) (vsz_some s5) hf.1 hf.2.1 hv h.vs (fun x hx => vsz_some (s10 x hx))

end Go.Proofs.YtjijmbpgfabgcaaDoor
namespace Go.Proofs.YtjijmbpgfabgcaaDoor
open Go.RowKit
set_option linter.unusedVariables false
set_option linter.unusedSimpArgs false

theorem piece_len (m : M) (c : Int) (hc : c ∈ LETS) (hs : small m) (hr : m.rs.length ≤ 64) (ho : okL m c = true) : (pieceL m c).length ≤ 80 := by
  obtain ⟨s1, s2, s3, s4, s5, s6, s7, s8, s9, s10⟩ := (small_iff m).1 hs
  have j1 : ∀ a : Int, a ≤ 4611686018427387903 → (joinN [a]).length ≤ 8 := fun a h => joinN_len [a] (fn1 (vsz_some h))
  have j2 : ∀ a b : Int, a ≤ 4611686018427387903 → b ≤ 4611686018427387903 → (joinN [a, b]).length ≤ 16 := fun a b h k => joinN_len [a, b] (fn2 (vsz_some h) (vsz_some k))
  simp only [LETS, List.mem_cons, List.not_mem_nil, or_false] at hc
  rcases hc with rfl | rfl | rfl | rfl | rfl | rfl | rfl | rfl | rfl | rfl | rfl | rfl | rfl | rfl
  · rw [piece_105]; have := j1 _ s1; omega
  · rw [piece_97]; have := j1 _ s2; omega
  · rw [okL_116] at ho; rw [piece_116]; have := txtB_len m.nm (by omega); omega
  · rw [piece_112]; simp
  · rw [piece_111]; simp
  · rw [piece_115]; have := j2 _ _ s6 s7; omega
  · rw [piece_101]; have := j2 _ _ s8 s9; omega
  · rw [piece_103]; have := j1 _ s8; omega
  · rw [piece_98]; simp
  · rw [piece_99]; have := j1 _ s3; omega
  · rw [piece_114]; have := txtB_len m.rs (by omega); omega
  · rw [piece_110]; have := j1 _ s4; omega
  · rw [piece_118]; have := j1 _ s5; omega
  · rw [okL_108] at ho; rw [piece_108, List.length_append]
    have h1 := j1 (m.vs.length : Int) (by omega)
    have h2 := joinN_len m.vs (fun x hx => vsz_some (s10 x hx))
    omega
theorem fb_len (m : M) (hs : small m) (hr : m.rs.length ≤ 64) : ∀ L : List Int, (∀ c ∈ L, c ∈ LETS ∧ okL m c = true) → (fb m L).length ≤ 80 * L.length
  | [], _ => by simp [fb]
  | c :: L, h => by
    rw [fb_cons, List.length_append, List.length_cons]
    have h1 := piece_len m c (h c (by simp)).1 hs hr (h c (by simp)).2
    have h2 := fb_len m hs hr L (fun d hd => h d (by simp [hd]))
    omega
theorem shP_len : ∀ P ∈ SH, (shP P).length ≤ 7 := by decide
theorem right_len {m : M} (hR : Right m) : (fb m (shP (prt m.kd).1)).length ≤ 560 := by
  have h1 := fb_len m hR.2.2.2.1 hR.2.2.1 (shP (prt m.kd).1) (fun c hc => ⟨(shP_ok _ (prt_mem _ hR.1)).1 c hc, hR.2.2.2.2 c hc⟩)
  have h2 := shP_len _ (prt_mem _ hR.1)
  omega
theorem only_vs (m : M) : ∀ (L : List Int) (x : M), (∀ c ∈ L, c ∈ LETS) → 108 ∉ L → (L.foldl (setL m) x).vs = x.vs
  | [], x, _, _ => rfl
  | c :: L, x, h, hn => by
    rw [List.foldl_cons, only_vs m L _ (fun d hd => h d (by simp [hd])) (fun hh => hn (by simp [hh]))]
    have hc : c ≠ 108 := fun e => hn (by simp [e])
    have hl := h c (by simp)
    simp only [LETS, List.mem_cons, List.not_mem_nil, or_false] at hl
    rcases hl with rfl | rfl | rfl | rfl | rfl | rfl | rfl | rfl | rfl | rfl | rfl | rfl | rfl | rfl
    all_goals first | rfl | exact absurd rfl hc
theorem right_vs {m : M} (hR : Right m) : m.vs.length ≤ 8 := by
  by_cases h : 108 ∈ shP (prt m.kd).1
  · have := hR.2.2.2.2 108 h
    rw [okL_108] at this
    exact this.2
  · have e := hR.2.1
    have := only_vs m (shP (prt m.kd).1) (M.nil m.kd) (shP_ok _ (prt_mem _ hR.1)).1 h
    have e2 : m.vs = [] := by rw [e]; exact this
    rw [e2]; simp
theorem prt_kd {k : Int} (h : (prt k).2 = true) : 0 ≤ k ∧ k ≤ 100 := by
  unfold prt at h
  rcases hf : kT.findIdx? (fun x : Int × Int => x.1 == k) with _ | i
  · rw [hf] at h; simp at h
  · obtain ⟨hi, h1, _⟩ := List.findIdx?_eq_some_iff_getElem.1 hf
    have h2 : (kT.getD i (0, 0)).1 = k := by simpa [List.getD, hi] using h1
    have := (kt_ok i hi).1
    omega
/-- A message's bytes. -/
def bts (m : M) : List Int := vform m.kd (vsz m.kd) ++ [((fb m (shP (prt m.kd).1)).length : Int) / 256, ((fb m (shP (prt m.kd).1)).length : Int) % 256] ++ fb m (shP (prt m.kd).1)
set_option maxHeartbeats 4000000 in
set_option maxRecDepth 100000 in
theorem bytes_no (m : M) (nv rv vv : Value) (w : World) (hG : Glob w) (hM : MV w m nv rv vv) (h : m.Ok) (hf : m.Fit) (hR : rt m = false) :
    Calls Tryd.prog 11 #[.agg (m.cells nv rv vv)] w fun e w' => e = .returned (.tuple #[.slice none 0 0, .int .i64 4]) ∧ Below w.heap.size w w' := by
  have hO0 := Blk.new w 31 (m.cells nv rv vv)
  have hB0 := (Below.refl w.heap.size w).alloc (Nat.le_refl _) (.cells (m.cells nv rv vv) 31)
  have a0 : World.cell? (w.alloc (.cells (m.cells nv rv vv) 31)) ⟨w.heap.size, 0, none⟩ = some (.int .u64 m.kd) := hO0.cell 0
  have a1 : World.cell? (w.alloc (.cells (m.cells nv rv vv) 31)) ⟨w.heap.size, 1, none⟩ = some (.int .u64 m.id) := hO0.cell 1
  have a2 : World.cell? (w.alloc (.cells (m.cells nv rv vv) 31)) ⟨w.heap.size, 2, none⟩ = some (.int .u64 m.al) := hO0.cell 2
  have a3 : World.cell? (w.alloc (.cells (m.cells nv rv vv) 31)) ⟨w.heap.size, 3, none⟩ = some (nv) := hO0.cell 3
  have a4 : World.cell? (w.alloc (.cells (m.cells nv rv vv) 31)) ⟨w.heap.size, 4, none⟩ = some (.int .u8 m.pr) := hO0.cell 4
  have a5 : World.cell? (w.alloc (.cells (m.cells nv rv vv) 31)) ⟨w.heap.size, 5, none⟩ = some (.int .u8 m.od) := hO0.cell 5
  have a6 : World.cell? (w.alloc (.cells (m.cells nv rv vv) 31)) ⟨w.heap.size, 6, none⟩ = some (.int .u64 m.sg) := hO0.cell 6
  have a7 : World.cell? (w.alloc (.cells (m.cells nv rv vv) 31)) ⟨w.heap.size, 7, none⟩ = some (.int .u64 m.so) := hO0.cell 7
  have a8 : World.cell? (w.alloc (.cells (m.cells nv rv vv) 31)) ⟨w.heap.size, 8, none⟩ = some (.int .u64 m.eg) := hO0.cell 8
  have a9 : World.cell? (w.alloc (.cells (m.cells nv rv vv) 31)) ⟨w.heap.size, 9, none⟩ = some (.int .u64 m.eo) := hO0.cell 9
  have a10 : World.cell? (w.alloc (.cells (m.cells nv rv vv) 31)) ⟨w.heap.size, 10, none⟩ = some (.bool m.sm) := hO0.cell 10
  have a11 : World.cell? (w.alloc (.cells (m.cells nv rv vv) 31)) ⟨w.heap.size, 11, none⟩ = some (.int .u64 m.cd) := hO0.cell 11
  have a12 : World.cell? (w.alloc (.cells (m.cells nv rv vv) 31)) ⟨w.heap.size, 12, none⟩ = some (rv) := hO0.cell 12
  have a13 : World.cell? (w.alloc (.cells (m.cells nv rv vv) 31)) ⟨w.heap.size, 13, none⟩ = some (.int .u64 m.n) := hO0.cell 13
  have a14 : World.cell? (w.alloc (.cells (m.cells nv rv vv) 31)) ⟨w.heap.size, 14, none⟩ = some (.int .u64 m.ve) := hO0.cell 14
  have a15 : World.cell? (w.alloc (.cells (m.cells nv rv vv) 31)) ⟨w.heap.size, 15, none⟩ = some (vv) := hO0.cell 15
  have hrt := right_all m nv rv vv _ (hG.same hB0) (hM.below hB0) h hf
  rw [hR] at hrt
  go_enter Tryd.func11, Tryd.ntmps11
  go_wp2_with fail
  (with_reducible refine hrt.mono ?_)
  rintro e w1 ⟨rfl, hb1⟩
  go_wp2_with fail
  go_ret2
  exact ⟨rfl, hB0.trans (hb1.mono hB0.size)⟩

end Go.Proofs.YtjijmbpgfabgcaaDoor
