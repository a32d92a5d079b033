/-
  Plain: a message, its letters, its bytes, and how it is read. No condition.
  Plain: the program's right is Right. No condition.
-/
import Derived.Test.YtjijmbpgfabgcaaDoorZG
import Derived.Test.YtjijmbpgfabgcaaDoorZE
import Derived.Test.YtjijmbpgfabgcaaDoorZC
namespace Go.Proofs.YtjijmbpgfabgcaaDoor
open Go.RowKit
set_option linter.unusedVariables false
set_option linter.unusedSimpArgs false

/-- A message. -/
structure M where
  kd : Int
  id : Int
  al : Int
  nm : List Int
  pr : Int
  od : Int
  sg : Int
  so : Int
  eg : Int
  eo : Int
  sm : Bool
  cd : Int
  rs : List Int
  n : Int
  ve : Int
  vs : List Int
def M.nil (k : Int) : M := ⟨k, 0, 0, [], 0, 0, 0, 0, 0, 0, false, 0, [], 0, 0, []⟩
/-- Its numbers are such. -/
structure M.Ok (m : M) : Prop where
  kd : 0 ≤ m.kd ∧ m.kd ≤ 18446744073709551615
  id : 0 ≤ m.id ∧ m.id ≤ 18446744073709551615
  al : 0 ≤ m.al ∧ m.al ≤ 18446744073709551615
  sg : 0 ≤ m.sg ∧ m.sg ≤ 18446744073709551615
  so : 0 ≤ m.so ∧ m.so ≤ 18446744073709551615
  eg : 0 ≤ m.eg ∧ m.eg ≤ 18446744073709551615
  eo : 0 ≤ m.eo ∧ m.eo ≤ 18446744073709551615
  cd : 0 ≤ m.cd ∧ m.cd ≤ 18446744073709551615
  n : 0 ≤ m.n ∧ m.n ≤ 18446744073709551615
  ve : 0 ≤ m.ve ∧ m.ve ≤ 18446744073709551615
  pr : 0 ≤ m.pr ∧ m.pr ≤ 255
  od : 0 ≤ m.od ∧ m.od ≤ 255
  nm : BytesOk m.nm
  rs : BytesOk m.rs
  vs : NumsOk m.vs
/-- The letters of a kind's parts. -/
def shP (P : Int) : List Int := if P = 191 then [105, 97, 116, 112, 111, 115, 103] else if P = 289 then [105, 98, 115] else if P = 1537 then [105, 99, 114] else if P = 5 then [105, 116] else if P = 1 then [105] else if P = 4 then [116] else if P = 0 then [] else if P = 2048 then [110] else if P = 109 then [105, 116, 112, 115, 101] else if P = 10240 then [108, 110] else [118, 110]
def shK (k : Int) : List Int := if (prt k).2 = true then shP (prt k).1 else [45]
def pieceL (m : M) (c : Int) : List Int :=
  if c = 105 then joinN [m.id] else if c = 97 then joinN [m.al] else if c = 116 then txtB m.nm else if c = 112 then [m.pr] else if c = 111 then [m.od] else if c = 115 then joinN [m.sg, m.so] else if c = 101 then joinN [m.eg, m.eo] else if c = 103 then joinN [m.eg] else if c = 98 then [b01 m.sm] else if c = 99 then joinN [m.cd] else if c = 114 then txtB m.rs else if c = 110 then joinN [m.n] else if c = 118 then joinN [m.ve] else joinN [(m.vs.length : Int)] ++ joinN m.vs
def fb (m : M) (L : List Int) : List Int := L.foldl (fun l c => l ++ pieceL m c) []
/-- One letter's parts of m laid into x. -/
def setL (m x : M) (c : Int) : M :=
  if c = 105 then { x with id := m.id } else if c = 97 then { x with al := m.al } else if c = 116 then { x with nm := m.nm } else if c = 112 then { x with pr := m.pr } else if c = 111 then { x with od := m.od } else if c = 115 then { x with sg := m.sg, so := m.so } else if c = 101 then { x with eg := m.eg, eo := m.eo } else if c = 103 then { x with eg := m.eg } else if c = 98 then { x with sm := m.sm } else if c = 99 then { x with cd := m.cd } else if c = 114 then { x with rs := m.rs } else if c = 110 then { x with n := m.n } else if c = 118 then { x with ve := m.ve } else { x with vs := m.vs }
def only (m : M) (L : List Int) : M := L.foldl (setL m) (M.nil m.kd)
/-- Numbers in front: so many of them, behind what is there. -/
def takeN : Nat → List Int → List Int → Option (List Int × List Int)
  | 0, a, b => some (a, b)
  | k + 1, a, b => match vtake b with
    | none => none
    | some (x, r) => takeN k (a ++ [x]) r
/-- A letter's parts are read. -/
def stepL (c : Int) (x : M) (b : List Int) : Option (M × List Int) :=
  if c = 116 ∨ c = 114 then (if (vtext b 65536).2.2 = 0 then some (if c = 116 then { x with nm := (vtext b 65536).1 } else { x with rs := (vtext b 65536).1 }, (vtext b 65536).2.1) else none)
  else if c = 112 ∨ c = 111 ∨ c = 98 then (match b with
    | [] => none
    | v :: r => if c = 112 then some ({ x with pr := v }, r) else if c = 111 then some ({ x with od := v }, r) else if v ≤ 1 then some ({ x with sm := decide (v = 1) }, r) else none)
  else match vtake b with
    | none => none
    | some (v, r) =>
      if c = 115 ∨ c = 101 then (match vtake r with
        | none => none
        | some (u, r2) => some (if c = 115 then { x with sg := v, so := u } else { x with eg := v, eo := u }, r2))
      else if c = 108 then (if v ≤ 8 then (match takeN v.toNat x.vs r with
        | none => none
        | some (l, r2) => some ({ x with vs := l }, r2)) else none)
      else some (if c = 105 then { x with id := v } else if c = 97 then { x with al := v } else if c = 103 then { x with eg := v } else if c = 99 then { x with cd := v } else if c = 110 then { x with n := v } else { x with ve := v }, r)
def parse : List Int → M → List Int → Option (M × List Int)
  | [], x, b => some (x, b)
  | c :: L, x, b => match stepL c x b with
    | none => none
    | some (y, r) => parse L y r
/-- Whether it is right: what a letter asks. -/
def okL (m : M) (c : Int) : Bool := decide (
  if c = 116 then m.nm ≠ [] ∧ m.nm.length ≤ 32 ∧ m.nm.getD (m.nm.length - 1) 0 ≠ 0
  else if c = 111 then m.od = 1 ∨ m.od = 2
  else if c = 103 then m.eg = 0 ∨ m.sg < m.eg
  else if c = 101 then ltP m.eg m.eo m.sg m.so = false
  else if c = 98 then m.sm = true ∨ (m.sg = 0 ∧ m.so = 0)
  else if c = 108 then m.vs ≠ [] ∧ m.vs.length ≤ 8 else True)
theorem setL_105 (m x : M) : setL m x 105 = { x with id := m.id } := rfl
theorem setL_97 (m x : M) : setL m x 97 = { x with al := m.al } := rfl
theorem setL_116 (m x : M) : setL m x 116 = { x with nm := m.nm } := rfl
theorem setL_112 (m x : M) : setL m x 112 = { x with pr := m.pr } := rfl
theorem setL_111 (m x : M) : setL m x 111 = { x with od := m.od } := rfl
theorem setL_115 (m x : M) : setL m x 115 = { x with sg := m.sg, so := m.so } := rfl
theorem setL_101 (m x : M) : setL m x 101 = { x with eg := m.eg, eo := m.eo } := rfl
theorem setL_103 (m x : M) : setL m x 103 = { x with eg := m.eg } := rfl
theorem setL_98 (m x : M) : setL m x 98 = { x with sm := m.sm } := rfl
theorem setL_99 (m x : M) : setL m x 99 = { x with cd := m.cd } := rfl
theorem setL_114 (m x : M) : setL m x 114 = { x with rs := m.rs } := rfl
theorem setL_110 (m x : M) : setL m x 110 = { x with n := m.n } := rfl
theorem setL_118 (m x : M) : setL m x 118 = { x with ve := m.ve } := rfl
theorem setL_108 (m x : M) : setL m x 108 = { x with vs := m.vs } := rfl
theorem okL_105 (m : M) : (okL m 105 = true) = (True) := by simp [okL]
theorem okL_97 (m : M) : (okL m 97 = true) = (True) := by simp [okL]
theorem okL_116 (m : M) : (okL m 116 = true) = (m.nm ≠ [] ∧ m.nm.length ≤ 32 ∧ m.nm.getD (m.nm.length - 1) 0 ≠ 0) := by simp [okL]
theorem okL_112 (m : M) : (okL m 112 = true) = (True) := by simp [okL]
theorem okL_111 (m : M) : (okL m 111 = true) = (m.od = 1 ∨ m.od = 2) := by simp [okL]
theorem okL_115 (m : M) : (okL m 115 = true) = (True) := by simp [okL]
theorem okL_101 (m : M) : (okL m 101 = true) = (ltP m.eg m.eo m.sg m.so = false) := by simp [okL]
theorem okL_103 (m : M) : (okL m 103 = true) = (m.eg = 0 ∨ m.sg < m.eg) := by simp [okL]
theorem okL_98 (m : M) : (okL m 98 = true) = (m.sm = true ∨ (m.sg = 0 ∧ m.so = 0)) := by simp [okL]
theorem okL_99 (m : M) : (okL m 99 = true) = (True) := by simp [okL]
theorem okL_114 (m : M) : (okL m 114 = true) = (True) := by simp [okL]
theorem okL_110 (m : M) : (okL m 110 = true) = (True) := by simp [okL]
theorem okL_118 (m : M) : (okL m 118 = true) = (True) := by simp [okL]
theorem okL_108 (m : M) : (okL m 108 = true) = (m.vs ≠ [] ∧ m.vs.length ≤ 8) := by simp [okL]
theorem piece_105 (m : M) : pieceL m 105 = joinN [m.id] := rfl
theorem piece_97 (m : M) : pieceL m 97 = joinN [m.al] := rfl
theorem piece_116 (m : M) : pieceL m 116 = txtB m.nm := rfl
theorem piece_112 (m : M) : pieceL m 112 = [m.pr] := rfl
theorem piece_111 (m : M) : pieceL m 111 = [m.od] := rfl
theorem piece_115 (m : M) : pieceL m 115 = joinN [m.sg, m.so] := rfl
theorem piece_101 (m : M) : pieceL m 101 = joinN [m.eg, m.eo] := rfl
theorem piece_103 (m : M) : pieceL m 103 = joinN [m.eg] := rfl
theorem piece_98 (m : M) : pieceL m 98 = [b01 m.sm] := rfl
theorem piece_99 (m : M) : pieceL m 99 = joinN [m.cd] := rfl
theorem piece_114 (m : M) : pieceL m 114 = txtB m.rs := rfl
theorem piece_110 (m : M) : pieceL m 110 = joinN [m.n] := rfl
theorem piece_118 (m : M) : pieceL m 118 = joinN [m.ve] := rfl
theorem piece_108 (m : M) : pieceL m 108 = joinN [(m.vs.length : Int)] ++ joinN m.vs := rfl
def small (m : M) : Prop := ∀ x ∈ [m.id, m.al, m.cd, m.n, m.ve, m.sg, m.so, m.eg, m.eo] ++ m.vs, x ≤ 4611686018427387903
theorem small_iff (m : M) : small m ↔ (m.id ≤ 4611686018427387903 ∧ m.al ≤ 4611686018427387903 ∧ m.cd ≤ 4611686018427387903 ∧ m.n ≤ 4611686018427387903 ∧ m.ve ≤ 4611686018427387903 ∧ m.sg ≤ 4611686018427387903 ∧ m.so ≤ 4611686018427387903 ∧ m.eg ≤ 4611686018427387903 ∧ m.eo ≤ 4611686018427387903 ∧ ∀ x ∈ m.vs, x ≤ 4611686018427387903) := by
  simp [small, or_imp, forall_and, and_assoc]
/-- The message is right. -/
def Right (m : M) : Prop := (prt m.kd).2 = true ∧ m = only m (shP (prt m.kd).1) ∧ m.rs.length ≤ 64 ∧ small m ∧ ∀ c ∈ shP (prt m.kd).1, okL m c = true
/-- The program's answer. -/
def rt (m : M) : Bool := (prt m.kd).2 && RtB (prt m.kd).1 m.id m.al m.nm m.pr m.od m.sg m.so m.eg m.eo m.sm m.cd m.rs.length m.n m.ve m.vs
theorem prt_mem (k : Int) (h : (prt k).2 = true) : (prt k).1 ∈ SH := prt_sh (k := k) (by rw [← h])
theorem maxL_le (l : List Int) (h : NumsOk l) (B : Int) (hB : 0 ≤ B) : ¬ B < maxL l ↔ ∀ x ∈ l, x ≤ B := by
  suffices H : ∀ a : Int, 0 ≤ a → (¬ B < l.foldl max a ↔ a ≤ B ∧ ∀ x ∈ l, x ≤ B) by
    have := H 0 (by omega)
    unfold maxL
    rw [this]
    exact ⟨fun h => h.2, fun h => ⟨hB, h⟩⟩
  clear h
  induction l with
  | nil => intro a _; simp
  | cons x r ih =>
    intro a h0
    rw [List.foldl_cons, ih (max a x) (by omega)]
    simp only [List.mem_cons, forall_eq_or_imp]
    constructor
    · rintro ⟨h1, h2⟩; exact ⟨by omega, by omega, h2⟩
    · rintro ⟨h1, h2, h3⟩; exact ⟨by omega, h3⟩
end Go.Proofs.YtjijmbpgfabgcaaDoor
namespace Go.Proofs.YtjijmbpgfabgcaaDoor
open Go.RowKit
set_option linter.unusedVariables false
set_option linter.unusedSimpArgs false

theorem shP_0 : shP 191 = [105, 97, 116, 112, 111, 115, 103] ∧ shP 289 = [105, 98, 115] ∧ shP 1537 = [105, 99, 114] ∧ shP 5 = [105, 116] ∧ shP 1 = [105] ∧ shP 4 = [116] ∧ shP 0 = [] ∧ shP 2048 = [110] ∧ shP 109 = [105, 116, 112, 115, 101] ∧ shP 10240 = [108, 110] ∧ shP 6144 = [118, 110] := by decide
set_option maxHeartbeats 4000000 in
theorem rt191 (m : M) (h : m.Ok) : RtB 191 m.id m.al m.nm m.pr m.od m.sg m.so m.eg m.eo m.sm m.cd m.rs.length m.n m.ve m.vs = true ↔ (m = only m (shP 191) ∧ m.rs.length ≤ 64 ∧ small m ∧ ∀ c ∈ shP 191, okL m c = true) := by
  obtain ⟨kd, id, al, nm, pr, od, sg, so, eg, eo, sm, cd, rs, n, ve, vs⟩ := m
  have z1 : ∀ {α : Type} (x z : α), zf 191 1 x z = z := fun x z => if_neg (by decide)
  have z2 : ∀ {α : Type} (x z : α), zf 191 2 x z = z := fun x z => if_neg (by decide)
  have z4 : ∀ {α : Type} (x z : α), zf 191 4 x z = z := fun x z => if_neg (by decide)
  have z8 : ∀ {α : Type} (x z : α), zf 191 8 x z = z := fun x z => if_neg (by decide)
  have z16 : ∀ {α : Type} (x z : α), zf 191 16 x z = z := fun x z => if_neg (by decide)
  have z32 : ∀ {α : Type} (x z : α), zf 191 32 x z = z := fun x z => if_neg (by decide)
  have z64 : ∀ {α : Type} (x z : α), zf 191 64 x z = x := fun x z => if_pos (by decide)
  have z128 : ∀ {α : Type} (x z : α), zf 191 128 x z = z := fun x z => if_neg (by decide)
  have z192 : ∀ {α : Type} (x z : α), zf 191 192 x z = z := fun x z => if_neg (by decide)
  have z256 : ∀ {α : Type} (x z : α), zf 191 256 x z = x := fun x z => if_pos (by decide)
  have z512 : ∀ {α : Type} (x z : α), zf 191 512 x z = x := fun x z => if_pos (by decide)
  have z1024 : ∀ {α : Type} (x z : α), zf 191 1024 x z = x := fun x z => if_pos (by decide)
  have z2048 : ∀ {α : Type} (x z : α), zf 191 2048 x z = x := fun x z => if_pos (by decide)
  have z4096 : ∀ {α : Type} (x z : α), zf 191 4096 x z = x := fun x z => if_pos (by decide)
  have z8192 : ∀ {α : Type} (x z : α), zf 191 8192 x z = x := fun x z => if_pos (by decide)
  have p4 : (bits .and .i64 191 4 = 0) = False := by simp; try decide
  have p16 : (bits .and .i64 191 16 = 0) = False := by simp; try decide
  have p128 : (bits .and .i64 191 128 = 0) = False := by simp; try decide
  have p64 : (bits .and .i64 191 64 = 0) = True := by simp; try decide
  have p256 : (bits .and .i64 191 256 = 0) = True := by simp; try decide
  have p8192 : (bits .and .i64 191 8192 = 0) = True := by simp; try decide
  have hs : shP 191 = [105, 97, 116, 112, 111, 115, 103] := by decide
  rw [hs]
  rw [small_iff]
  simp only [RtB, Zer, z1, z2, z4, z8, z16, z32, z64, z128, z192, z256, z512, z1024, z2048, z4096, z8192, p4, p16, p128, p64, p256, p8192, Emp, decide_eq_true_eq, only, List.foldl_cons, List.foldl_nil, setL_105, setL_97, setL_116, setL_112, setL_111, setL_115, setL_103, M.nil, List.mem_cons, List.not_mem_nil, or_false, forall_eq_or_imp, forall_eq, false_imp_iff, implies_true, okL_105, okL_97, okL_116, okL_112, okL_111, okL_115, okL_103, true_and, and_true, true_or, false_or]
  have hv0 := maxL_le vs h.vs 4611686018427387903 (by decide)
  have e1 : nm.length = 0 ↔ nm = [] := List.length_eq_zero_iff
  have e2 : vs.length = 0 ↔ vs = [] := List.length_eq_zero_iff
  have e3 : rs.length = 0 ↔ rs = [] := List.length_eq_zero_iff
  simp only [hv0, e1, e2, e3, ne_eq, not_or, Int.not_lt, M.mk.injEq, true_and, and_true, and_assoc]
  clear h hv0 e1 e2 e3 z1 z2 z4 z8 z16 z32 z64 z128 z192 z256 z512 z1024 z2048 z4096 z8192 p4 p16 p128 p64 p256 p8192 hs
  constructor
  · intro hh
    simp_all
    all_goals try omega
  · intro hh
    simp_all
    all_goals try omega
set_option maxHeartbeats 4000000 in
theorem rt289 (m : M) (h : m.Ok) : RtB 289 m.id m.al m.nm m.pr m.od m.sg m.so m.eg m.eo m.sm m.cd m.rs.length m.n m.ve m.vs = true ↔ (m = only m (shP 289) ∧ m.rs.length ≤ 64 ∧ small m ∧ ∀ c ∈ shP 289, okL m c = true) := by
  obtain ⟨kd, id, al, nm, pr, od, sg, so, eg, eo, sm, cd, rs, n, ve, vs⟩ := m
  have z1 : ∀ {α : Type} (x z : α), zf 289 1 x z = z := fun x z => if_neg (by decide)
  have z2 : ∀ {α : Type} (x z : α), zf 289 2 x z = x := fun x z => if_pos (by decide)
  have z4 : ∀ {α : Type} (x z : α), zf 289 4 x z = x := fun x z => if_pos (by decide)
  have z8 : ∀ {α : Type} (x z : α), zf 289 8 x z = x := fun x z => if_pos (by decide)
  have z16 : ∀ {α : Type} (x z : α), zf 289 16 x z = x := fun x z => if_pos (by decide)
  have z32 : ∀ {α : Type} (x z : α), zf 289 32 x z = z := fun x z => if_neg (by decide)
  have z64 : ∀ {α : Type} (x z : α), zf 289 64 x z = x := fun x z => if_pos (by decide)
  have z128 : ∀ {α : Type} (x z : α), zf 289 128 x z = x := fun x z => if_pos (by decide)
  have z192 : ∀ {α : Type} (x z : α), zf 289 192 x z = x := fun x z => if_pos (by decide)
  have z256 : ∀ {α : Type} (x z : α), zf 289 256 x z = z := fun x z => if_neg (by decide)
  have z512 : ∀ {α : Type} (x z : α), zf 289 512 x z = x := fun x z => if_pos (by decide)
  have z1024 : ∀ {α : Type} (x z : α), zf 289 1024 x z = x := fun x z => if_pos (by decide)
  have z2048 : ∀ {α : Type} (x z : α), zf 289 2048 x z = x := fun x z => if_pos (by decide)
  have z4096 : ∀ {α : Type} (x z : α), zf 289 4096 x z = x := fun x z => if_pos (by decide)
  have z8192 : ∀ {α : Type} (x z : α), zf 289 8192 x z = x := fun x z => if_pos (by decide)
  have p4 : (bits .and .i64 289 4 = 0) = True := by simp; try decide
  have p16 : (bits .and .i64 289 16 = 0) = True := by simp; try decide
  have p128 : (bits .and .i64 289 128 = 0) = True := by simp; try decide
  have p64 : (bits .and .i64 289 64 = 0) = True := by simp; try decide
  have p256 : (bits .and .i64 289 256 = 0) = False := by simp; try decide
  have p8192 : (bits .and .i64 289 8192 = 0) = True := by simp; try decide
  have hs : shP 289 = [105, 98, 115] := by decide
  rw [hs]
  rw [small_iff]
  simp only [RtB, Zer, z1, z2, z4, z8, z16, z32, z64, z128, z192, z256, z512, z1024, z2048, z4096, z8192, p4, p16, p128, p64, p256, p8192, Emp, decide_eq_true_eq, only, List.foldl_cons, List.foldl_nil, setL_105, setL_98, setL_115, M.nil, List.mem_cons, List.not_mem_nil, or_false, forall_eq_or_imp, forall_eq, false_imp_iff, implies_true, okL_105, okL_98, okL_115, true_and, and_true, true_or, false_or]
  have hv0 := maxL_le vs h.vs 4611686018427387903 (by decide)
  have e1 : nm.length = 0 ↔ nm = [] := List.length_eq_zero_iff
  have e2 : vs.length = 0 ↔ vs = [] := List.length_eq_zero_iff
  have e3 : rs.length = 0 ↔ rs = [] := List.length_eq_zero_iff
  simp only [hv0, e1, e2, e3, ne_eq, not_or, Int.not_lt, M.mk.injEq, true_and, and_true, and_assoc]
  clear h hv0 e1 e2 e3 z1 z2 z4 z8 z16 z32 z64 z128 z192 z256 z512 z1024 z2048 z4096 z8192 p4 p16 p128 p64 p256 p8192 hs
  constructor
  · intro hh
    simp_all
    all_goals try omega
  · intro hh
    simp_all
    all_goals try omega
set_option maxHeartbeats 4000000 in
theorem rt1537 (m : M) (h : m.Ok) : RtB 1537 m.id m.al m.nm m.pr m.od m.sg m.so m.eg m.eo m.sm m.cd m.rs.length m.n m.ve m.vs = true ↔ (m = only m (shP 1537) ∧ m.rs.length ≤ 64 ∧ small m ∧ ∀ c ∈ shP 1537, okL m c = true) := by
  obtain ⟨kd, id, al, nm, pr, od, sg, so, eg, eo, sm, cd, rs, n, ve, vs⟩ := m
  have z1 : ∀ {α : Type} (x z : α), zf 1537 1 x z = z := fun x z => if_neg (by decide)
  have z2 : ∀ {α : Type} (x z : α), zf 1537 2 x z = x := fun x z => if_pos (by decide)
  have z4 : ∀ {α : Type} (x z : α), zf 1537 4 x z = x := fun x z => if_pos (by decide)
  have z8 : ∀ {α : Type} (x z : α), zf 1537 8 x z = x := fun x z => if_pos (by decide)
  have z16 : ∀ {α : Type} (x z : α), zf 1537 16 x z = x := fun x z => if_pos (by decide)
  have z32 : ∀ {α : Type} (x z : α), zf 1537 32 x z = x := fun x z => if_pos (by decide)
  have z64 : ∀ {α : Type} (x z : α), zf 1537 64 x z = x := fun x z => if_pos (by decide)
  have z128 : ∀ {α : Type} (x z : α), zf 1537 128 x z = x := fun x z => if_pos (by decide)
  have z192 : ∀ {α : Type} (x z : α), zf 1537 192 x z = x := fun x z => if_pos (by decide)
  have z256 : ∀ {α : Type} (x z : α), zf 1537 256 x z = x := fun x z => if_pos (by decide)
  have z512 : ∀ {α : Type} (x z : α), zf 1537 512 x z = z := fun x z => if_neg (by decide)
  have z1024 : ∀ {α : Type} (x z : α), zf 1537 1024 x z = z := fun x z => if_neg (by decide)
  have z2048 : ∀ {α : Type} (x z : α), zf 1537 2048 x z = x := fun x z => if_pos (by decide)
  have z4096 : ∀ {α : Type} (x z : α), zf 1537 4096 x z = x := fun x z => if_pos (by decide)
  have z8192 : ∀ {α : Type} (x z : α), zf 1537 8192 x z = x := fun x z => if_pos (by decide)
  have p4 : (bits .and .i64 1537 4 = 0) = True := by simp; try decide
  have p16 : (bits .and .i64 1537 16 = 0) = True := by simp; try decide
  have p128 : (bits .and .i64 1537 128 = 0) = True := by simp; try decide
  have p64 : (bits .and .i64 1537 64 = 0) = True := by simp; try decide
  have p256 : (bits .and .i64 1537 256 = 0) = True := by simp; try decide
  have p8192 : (bits .and .i64 1537 8192 = 0) = True := by simp; try decide
  have hs : shP 1537 = [105, 99, 114] := by decide
  rw [hs]
  rw [small_iff]
  simp only [RtB, Zer, z1, z2, z4, z8, z16, z32, z64, z128, z192, z256, z512, z1024, z2048, z4096, z8192, p4, p16, p128, p64, p256, p8192, Emp, decide_eq_true_eq, only, List.foldl_cons, List.foldl_nil, setL_105, setL_99, setL_114, M.nil, List.mem_cons, List.not_mem_nil, or_false, forall_eq_or_imp, forall_eq, false_imp_iff, implies_true, okL_105, okL_99, okL_114, true_and, and_true, true_or, false_or]
  have hv0 := maxL_le vs h.vs 4611686018427387903 (by decide)
  have e1 : nm.length = 0 ↔ nm = [] := List.length_eq_zero_iff
  have e2 : vs.length = 0 ↔ vs = [] := List.length_eq_zero_iff
  have e3 : rs.length = 0 ↔ rs = [] := List.length_eq_zero_iff
  simp only [hv0, e1, e2, e3, ne_eq, not_or, Int.not_lt, M.mk.injEq, true_and, and_true, and_assoc]
  clear h hv0 e1 e2 e3 z1 z2 z4 z8 z16 z32 z64 z128 z192 z256 z512 z1024 z2048 z4096 z8192 p4 p16 p128 p64 p256 p8192 hs
  constructor
  · intro hh
    simp_all
    all_goals try omega
  · intro hh
    simp_all
    all_goals try omega
set_option maxHeartbeats 4000000 in
theorem rt5 (m : M) (h : m.Ok) : RtB 5 m.id m.al m.nm m.pr m.od m.sg m.so m.eg m.eo m.sm m.cd m.rs.length m.n m.ve m.vs = true ↔ (m = only m (shP 5) ∧ m.rs.length ≤ 64 ∧ small m ∧ ∀ c ∈ shP 5, okL m c = true) := by
  obtain ⟨kd, id, al, nm, pr, od, sg, so, eg, eo, sm, cd, rs, n, ve, vs⟩ := m
  have z1 : ∀ {α : Type} (x z : α), zf 5 1 x z = z := fun x z => if_neg (by decide)
  have z2 : ∀ {α : Type} (x z : α), zf 5 2 x z = x := fun x z => if_pos (by decide)
  have z4 : ∀ {α : Type} (x z : α), zf 5 4 x z = z := fun x z => if_neg (by decide)
  have z8 : ∀ {α : Type} (x z : α), zf 5 8 x z = x := fun x z => if_pos (by decide)
  have z16 : ∀ {α : Type} (x z : α), zf 5 16 x z = x := fun x z => if_pos (by decide)
  have z32 : ∀ {α : Type} (x z : α), zf 5 32 x z = x := fun x z => if_pos (by decide)
  have z64 : ∀ {α : Type} (x z : α), zf 5 64 x z = x := fun x z => if_pos (by decide)
  have z128 : ∀ {α : Type} (x z : α), zf 5 128 x z = x := fun x z => if_pos (by decide)
  have z192 : ∀ {α : Type} (x z : α), zf 5 192 x z = x := fun x z => if_pos (by decide)
  have z256 : ∀ {α : Type} (x z : α), zf 5 256 x z = x := fun x z => if_pos (by decide)
  have z512 : ∀ {α : Type} (x z : α), zf 5 512 x z = x := fun x z => if_pos (by decide)
  have z1024 : ∀ {α : Type} (x z : α), zf 5 1024 x z = x := fun x z => if_pos (by decide)
  have z2048 : ∀ {α : Type} (x z : α), zf 5 2048 x z = x := fun x z => if_pos (by decide)
  have z4096 : ∀ {α : Type} (x z : α), zf 5 4096 x z = x := fun x z => if_pos (by decide)
  have z8192 : ∀ {α : Type} (x z : α), zf 5 8192 x z = x := fun x z => if_pos (by decide)
  have p4 : (bits .and .i64 5 4 = 0) = False := by simp; try decide
  have p16 : (bits .and .i64 5 16 = 0) = True := by simp; try decide
  have p128 : (bits .and .i64 5 128 = 0) = True := by simp; try decide
  have p64 : (bits .and .i64 5 64 = 0) = True := by simp; try decide
  have p256 : (bits .and .i64 5 256 = 0) = True := by simp; try decide
  have p8192 : (bits .and .i64 5 8192 = 0) = True := by simp; try decide
  have hs : shP 5 = [105, 116] := by decide
  rw [hs]
  rw [small_iff]
  simp only [RtB, Zer, z1, z2, z4, z8, z16, z32, z64, z128, z192, z256, z512, z1024, z2048, z4096, z8192, p4, p16, p128, p64, p256, p8192, Emp, decide_eq_true_eq, only, List.foldl_cons, List.foldl_nil, setL_105, setL_116, M.nil, List.mem_cons, List.not_mem_nil, or_false, forall_eq_or_imp, forall_eq, false_imp_iff, implies_true, okL_105, okL_116, true_and, and_true, true_or, false_or]
  have hv0 := maxL_le vs h.vs 4611686018427387903 (by decide)
  have e1 : nm.length = 0 ↔ nm = [] := List.length_eq_zero_iff
  have e2 : vs.length = 0 ↔ vs = [] := List.length_eq_zero_iff
  have e3 : rs.length = 0 ↔ rs = [] := List.length_eq_zero_iff
  simp only [hv0, e1, e2, e3, ne_eq, not_or, Int.not_lt, M.mk.injEq, true_and, and_true, and_assoc]
  clear h hv0 e1 e2 e3 z1 z2 z4 z8 z16 z32 z64 z128 z192 z256 z512 z1024 z2048 z4096 z8192 p4 p16 p128 p64 p256 p8192 hs
  constructor
  · intro hh
    simp_all
    all_goals try omega
  · intro hh
    simp_all
    all_goals try omega
set_option maxHeartbeats 4000000 in
theorem rt1 (m : M) (h : m.Ok) : RtB 1 m.id m.al m.nm m.pr m.od m.sg m.so m.eg m.eo m.sm m.cd m.rs.length m.n m.ve m.vs = true ↔ (m = only m (shP 1) ∧ m.rs.length ≤ 64 ∧ small m ∧ ∀ c ∈ shP 1, okL m c = true) := by
  obtain ⟨kd, id, al, nm, pr, od, sg, so, eg, eo, sm, cd, rs, n, ve, vs⟩ := m
  have z1 : ∀ {α : Type} (x z : α), zf 1 1 x z = z := fun x z => if_neg (by decide)
  have z2 : ∀ {α : Type} (x z : α), zf 1 2 x z = x := fun x z => if_pos (by decide)
  have z4 : ∀ {α : Type} (x z : α), zf 1 4 x z = x := fun x z => if_pos (by decide)
  have z8 : ∀ {α : Type} (x z : α), zf 1 8 x z = x := fun x z => if_pos (by decide)
  have z16 : ∀ {α : Type} (x z : α), zf 1 16 x z = x := fun x z => if_pos (by decide)
  have z32 : ∀ {α : Type} (x z : α), zf 1 32 x z = x := fun x z => if_pos (by decide)
  have z64 : ∀ {α : Type} (x z : α), zf 1 64 x z = x := fun x z => if_pos (by decide)
  have z128 : ∀ {α : Type} (x z : α), zf 1 128 x z = x := fun x z => if_pos (by decide)
  have z192 : ∀ {α : Type} (x z : α), zf 1 192 x z = x := fun x z => if_pos (by decide)
  have z256 : ∀ {α : Type} (x z : α), zf 1 256 x z = x := fun x z => if_pos (by decide)
  have z512 : ∀ {α : Type} (x z : α), zf 1 512 x z = x := fun x z => if_pos (by decide)
  have z1024 : ∀ {α : Type} (x z : α), zf 1 1024 x z = x := fun x z => if_pos (by decide)
  have z2048 : ∀ {α : Type} (x z : α), zf 1 2048 x z = x := fun x z => if_pos (by decide)
  have z4096 : ∀ {α : Type} (x z : α), zf 1 4096 x z = x := fun x z => if_pos (by decide)
  have z8192 : ∀ {α : Type} (x z : α), zf 1 8192 x z = x := fun x z => if_pos (by decide)
  have p4 : (bits .and .i64 1 4 = 0) = True := by simp; try decide
  have p16 : (bits .and .i64 1 16 = 0) = True := by simp; try decide
  have p128 : (bits .and .i64 1 128 = 0) = True := by simp; try decide
  have p64 : (bits .and .i64 1 64 = 0) = True := by simp; try decide
  have p256 : (bits .and .i64 1 256 = 0) = True := by simp; try decide
  have p8192 : (bits .and .i64 1 8192 = 0) = True := by simp; try decide
  have hs : shP 1 = [105] := by decide
  rw [hs]
  rw [small_iff]
  simp only [RtB, Zer, z1, z2, z4, z8, z16, z32, z64, z128, z192, z256, z512, z1024, z2048, z4096, z8192, p4, p16, p128, p64, p256, p8192, Emp, decide_eq_true_eq, only, List.foldl_cons, List.foldl_nil, setL_105, M.nil, List.mem_cons, List.not_mem_nil, or_false, forall_eq_or_imp, forall_eq, false_imp_iff, implies_true, okL_105, true_and, and_true, true_or, false_or]
  have hv0 := maxL_le vs h.vs 4611686018427387903 (by decide)
  have e1 : nm.length = 0 ↔ nm = [] := List.length_eq_zero_iff
  have e2 : vs.length = 0 ↔ vs = [] := List.length_eq_zero_iff
  have e3 : rs.length = 0 ↔ rs = [] := List.length_eq_zero_iff
  simp only [hv0, e1, e2, e3, ne_eq, not_or, Int.not_lt, M.mk.injEq, true_and, and_true, and_assoc]
  clear h hv0 e1 e2 e3 z1 z2 z4 z8 z16 z32 z64 z128 z192 z256 z512 z1024 z2048 z4096 z8192 p4 p16 p128 p64 p256 p8192 hs
  constructor
  · intro hh
    simp_all
    all_goals try omega
  · intro hh
    simp_all
    all_goals try omega
set_option maxHeartbeats 4000000 in
theorem rt4 (m : M) (h : m.Ok) : RtB 4 m.id m.al m.nm m.pr m.od m.sg m.so m.eg m.eo m.sm m.cd m.rs.length m.n m.ve m.vs = true ↔ (m = only m (shP 4) ∧ m.rs.length ≤ 64 ∧ small m ∧ ∀ c ∈ shP 4, okL m c = true) := by
  obtain ⟨kd, id, al, nm, pr, od, sg, so, eg, eo, sm, cd, rs, n, ve, vs⟩ := m
  have z1 : ∀ {α : Type} (x z : α), zf 4 1 x z = x := fun x z => if_pos (by decide)
  have z2 : ∀ {α : Type} (x z : α), zf 4 2 x z = x := fun x z => if_pos (by decide)
  have z4 : ∀ {α : Type} (x z : α), zf 4 4 x z = z := fun x z => if_neg (by decide)
  have z8 : ∀ {α : Type} (x z : α), zf 4 8 x z = x := fun x z => if_pos (by decide)
  have z16 : ∀ {α : Type} (x z : α), zf 4 16 x z = x := fun x z => if_pos (by decide)
  have z32 : ∀ {α : Type} (x z : α), zf 4 32 x z = x := fun x z => if_pos (by decide)
  have z64 : ∀ {α : Type} (x z : α), zf 4 64 x z = x := fun x z => if_pos (by decide)
  have z128 : ∀ {α : Type} (x z : α), zf 4 128 x z = x := fun x z => if_pos (by decide)
  have z192 : ∀ {α : Type} (x z : α), zf 4 192 x z = x := fun x z => if_pos (by decide)
  have z256 : ∀ {α : Type} (x z : α), zf 4 256 x z = x := fun x z => if_pos (by decide)
  have z512 : ∀ {α : Type} (x z : α), zf 4 512 x z = x := fun x z => if_pos (by decide)
  have z1024 : ∀ {α : Type} (x z : α), zf 4 1024 x z = x := fun x z => if_pos (by decide)
  have z2048 : ∀ {α : Type} (x z : α), zf 4 2048 x z = x := fun x z => if_pos (by decide)
  have z4096 : ∀ {α : Type} (x z : α), zf 4 4096 x z = x := fun x z => if_pos (by decide)
  have z8192 : ∀ {α : Type} (x z : α), zf 4 8192 x z = x := fun x z => if_pos (by decide)
  have p4 : (bits .and .i64 4 4 = 0) = False := by simp; try decide
  have p16 : (bits .and .i64 4 16 = 0) = True := by simp; try decide
  have p128 : (bits .and .i64 4 128 = 0) = True := by simp; try decide
  have p64 : (bits .and .i64 4 64 = 0) = True := by simp; try decide
  have p256 : (bits .and .i64 4 256 = 0) = True := by simp; try decide
  have p8192 : (bits .and .i64 4 8192 = 0) = True := by simp; try decide
  have hs : shP 4 = [116] := by decide
  rw [hs]
  rw [small_iff]
  simp only [RtB, Zer, z1, z2, z4, z8, z16, z32, z64, z128, z192, z256, z512, z1024, z2048, z4096, z8192, p4, p16, p128, p64, p256, p8192, Emp, decide_eq_true_eq, only, List.foldl_cons, List.foldl_nil, setL_116, M.nil, List.mem_cons, List.not_mem_nil, or_false, forall_eq_or_imp, forall_eq, false_imp_iff, implies_true, okL_116, true_and, and_true, true_or, false_or]
  have hv0 := maxL_le vs h.vs 4611686018427387903 (by decide)
  have e1 : nm.length = 0 ↔ nm = [] := List.length_eq_zero_iff
  have e2 : vs.length = 0 ↔ vs = [] := List.length_eq_zero_iff
  have e3 : rs.length = 0 ↔ rs = [] := List.length_eq_zero_iff
  simp only [hv0, e1, e2, e3, ne_eq, not_or, Int.not_lt, M.mk.injEq, true_and, and_true, and_assoc]
  clear h hv0 e1 e2 e3 z1 z2 z4 z8 z16 z32 z64 z128 z192 z256 z512 z1024 z2048 z4096 z8192 p4 p16 p128 p64 p256 p8192 hs
  constructor
  · intro hh
    simp_all
    all_goals try omega
  · intro hh
    simp_all
    all_goals try omega
set_option maxHeartbeats 4000000 in
theorem rt0 (m : M) (h : m.Ok) : RtB 0 m.id m.al m.nm m.pr m.od m.sg m.so m.eg m.eo m.sm m.cd m.rs.length m.n m.ve m.vs = true ↔ (m = only m (shP 0) ∧ m.rs.length ≤ 64 ∧ small m ∧ ∀ c ∈ shP 0, okL m c = true) := by
  obtain ⟨kd, id, al, nm, pr, od, sg, so, eg, eo, sm, cd, rs, n, ve, vs⟩ := m
  have z1 : ∀ {α : Type} (x z : α), zf 0 1 x z = x := fun x z => if_pos (by decide)
  have z2 : ∀ {α : Type} (x z : α), zf 0 2 x z = x := fun x z => if_pos (by decide)
  have z4 : ∀ {α : Type} (x z : α), zf 0 4 x z = x := fun x z => if_pos (by decide)
  have z8 : ∀ {α : Type} (x z : α), zf 0 8 x z = x := fun x z => if_pos (by decide)
  have z16 : ∀ {α : Type} (x z : α), zf 0 16 x z = x := fun x z => if_pos (by decide)
  have z32 : ∀ {α : Type} (x z : α), zf 0 32 x z = x := fun x z => if_pos (by decide)
  have z64 : ∀ {α : Type} (x z : α), zf 0 64 x z = x := fun x z => if_pos (by decide)
  have z128 : ∀ {α : Type} (x z : α), zf 0 128 x z = x := fun x z => if_pos (by decide)
  have z192 : ∀ {α : Type} (x z : α), zf 0 192 x z = x := fun x z => if_pos (by decide)
  have z256 : ∀ {α : Type} (x z : α), zf 0 256 x z = x := fun x z => if_pos (by decide)
  have z512 : ∀ {α : Type} (x z : α), zf 0 512 x z = x := fun x z => if_pos (by decide)
  have z1024 : ∀ {α : Type} (x z : α), zf 0 1024 x z = x := fun x z => if_pos (by decide)
  have z2048 : ∀ {α : Type} (x z : α), zf 0 2048 x z = x := fun x z => if_pos (by decide)
  have z4096 : ∀ {α : Type} (x z : α), zf 0 4096 x z = x := fun x z => if_pos (by decide)
  have z8192 : ∀ {α : Type} (x z : α), zf 0 8192 x z = x := fun x z => if_pos (by decide)
  have p4 : (bits .and .i64 0 4 = 0) = True := by simp; try decide
  have p16 : (bits .and .i64 0 16 = 0) = True := by simp; try decide
  have p128 : (bits .and .i64 0 128 = 0) = True := by simp; try decide
  have p64 : (bits .and .i64 0 64 = 0) = True := by simp; try decide
  have p256 : (bits .and .i64 0 256 = 0) = True := by simp; try decide
  have p8192 : (bits .and .i64 0 8192 = 0) = True := by simp; try decide
  have hs : shP 0 = [] := by decide
  rw [hs]
  rw [small_iff]
  simp only [RtB, Zer, z1, z2, z4, z8, z16, z32, z64, z128, z192, z256, z512, z1024, z2048, z4096, z8192, p4, p16, p128, p64, p256, p8192, Emp, decide_eq_true_eq, only, List.foldl_cons, List.foldl_nil, M.nil, List.mem_cons, List.not_mem_nil, or_false, forall_eq_or_imp, forall_eq, false_imp_iff, implies_true, true_and, and_true, true_or, false_or]
  have hv0 := maxL_le vs h.vs 4611686018427387903 (by decide)
  have e1 : nm.length = 0 ↔ nm = [] := List.length_eq_zero_iff
  have e2 : vs.length = 0 ↔ vs = [] := List.length_eq_zero_iff
  have e3 : rs.length = 0 ↔ rs = [] := List.length_eq_zero_iff
  simp only [hv0, e1, e2, e3, ne_eq, not_or, Int.not_lt, M.mk.injEq, true_and, and_true, and_assoc]
  clear h hv0 e1 e2 e3 z1 z2 z4 z8 z16 z32 z64 z128 z192 z256 z512 z1024 z2048 z4096 z8192 p4 p16 p128 p64 p256 p8192 hs
  constructor
  · intro hh
    simp_all
    all_goals try omega
  · intro hh
    simp_all
    all_goals try omega
set_option maxHeartbeats 4000000 in
theorem rt2048 (m : M) (h : m.Ok) : RtB 2048 m.id m.al m.nm m.pr m.od m.sg m.so m.eg m.eo m.sm m.cd m.rs.length m.n m.ve m.vs = true ↔ (m = only m (shP 2048) ∧ m.rs.length ≤ 64 ∧ small m ∧ ∀ c ∈ shP 2048, okL m c = true) := by
  obtain ⟨kd, id, al, nm, pr, od, sg, so, eg, eo, sm, cd, rs, n, ve, vs⟩ := m
  have z1 : ∀ {α : Type} (x z : α), zf 2048 1 x z = x := fun x z => if_pos (by decide)
  have z2 : ∀ {α : Type} (x z : α), zf 2048 2 x z = x := fun x z => if_pos (by decide)
  have z4 : ∀ {α : Type} (x z : α), zf 2048 4 x z = x := fun x z => if_pos (by decide)
  have z8 : ∀ {α : Type} (x z : α), zf 2048 8 x z = x := fun x z => if_pos (by decide)
  have z16 : ∀ {α : Type} (x z : α), zf 2048 16 x z = x := fun x z => if_pos (by decide)
  have z32 : ∀ {α : Type} (x z : α), zf 2048 32 x z = x := fun x z => if_pos (by decide)
  have z64 : ∀ {α : Type} (x z : α), zf 2048 64 x z = x := fun x z => if_pos (by decide)
  have z128 : ∀ {α : Type} (x z : α), zf 2048 128 x z = x := fun x z => if_pos (by decide)
  have z192 : ∀ {α : Type} (x z : α), zf 2048 192 x z = x := fun x z => if_pos (by decide)
  have z256 : ∀ {α : Type} (x z : α), zf 2048 256 x z = x := fun x z => if_pos (by decide)
  have z512 : ∀ {α : Type} (x z : α), zf 2048 512 x z = x := fun x z => if_pos (by decide)
  have z1024 : ∀ {α : Type} (x z : α), zf 2048 1024 x z = x := fun x z => if_pos (by decide)
  have z2048 : ∀ {α : Type} (x z : α), zf 2048 2048 x z = z := fun x z => if_neg (by decide)
  have z4096 : ∀ {α : Type} (x z : α), zf 2048 4096 x z = x := fun x z => if_pos (by decide)
  have z8192 : ∀ {α : Type} (x z : α), zf 2048 8192 x z = x := fun x z => if_pos (by decide)
  have p4 : (bits .and .i64 2048 4 = 0) = True := by simp; try decide
  have p16 : (bits .and .i64 2048 16 = 0) = True := by simp; try decide
  have p128 : (bits .and .i64 2048 128 = 0) = True := by simp; try decide
  have p64 : (bits .and .i64 2048 64 = 0) = True := by simp; try decide
  have p256 : (bits .and .i64 2048 256 = 0) = True := by simp; try decide
  have p8192 : (bits .and .i64 2048 8192 = 0) = True := by simp; try decide
  have hs : shP 2048 = [110] := by decide
  rw [hs]
  rw [small_iff]
  simp only [RtB, Zer, z1, z2, z4, z8, z16, z32, z64, z128, z192, z256, z512, z1024, z2048, z4096, z8192, p4, p16, p128, p64, p256, p8192, Emp, decide_eq_true_eq, only, List.foldl_cons, List.foldl_nil, setL_110, M.nil, List.mem_cons, List.not_mem_nil, or_false, forall_eq_or_imp, forall_eq, false_imp_iff, implies_true, okL_110, true_and, and_true, true_or, false_or]
  have hv0 := maxL_le vs h.vs 4611686018427387903 (by decide)
  have e1 : nm.length = 0 ↔ nm = [] := List.length_eq_zero_iff
  have e2 : vs.length = 0 ↔ vs = [] := List.length_eq_zero_iff
  have e3 : rs.length = 0 ↔ rs = [] := List.length_eq_zero_iff
  simp only [hv0, e1, e2, e3, ne_eq, not_or, Int.not_lt, M.mk.injEq, true_and, and_true, and_assoc]
  clear h hv0 e1 e2 e3 z1 z2 z4 z8 z16 z32 z64 z128 z192 z256 z512 z1024 z2048 z4096 z8192 p4 p16 p128 p64 p256 p8192 hs
  constructor
  · intro hh
    simp_all
    all_goals try omega
  · intro hh
    simp_all
    all_goals try omega
set_option maxHeartbeats 4000000 in
theorem rt109 (m : M) (h : m.Ok) : RtB 109 m.id m.al m.nm m.pr m.od m.sg m.so m.eg m.eo m.sm m.cd m.rs.length m.n m.ve m.vs = true ↔ (m = only m (shP 109) ∧ m.rs.length ≤ 64 ∧ small m ∧ ∀ c ∈ shP 109, okL m c = true) := by
  obtain ⟨kd, id, al, nm, pr, od, sg, so, eg, eo, sm, cd, rs, n, ve, vs⟩ := m
  have z1 : ∀ {α : Type} (x z : α), zf 109 1 x z = z := fun x z => if_neg (by decide)
  have z2 : ∀ {α : Type} (x z : α), zf 109 2 x z = x := fun x z => if_pos (by decide)
  have z4 : ∀ {α : Type} (x z : α), zf 109 4 x z = z := fun x z => if_neg (by decide)
  have z8 : ∀ {α : Type} (x z : α), zf 109 8 x z = z := fun x z => if_neg (by decide)
  have z16 : ∀ {α : Type} (x z : α), zf 109 16 x z = x := fun x z => if_pos (by decide)
  have z32 : ∀ {α : Type} (x z : α), zf 109 32 x z = z := fun x z => if_neg (by decide)
  have z64 : ∀ {α : Type} (x z : α), zf 109 64 x z = z := fun x z => if_neg (by decide)
  have z128 : ∀ {α : Type} (x z : α), zf 109 128 x z = x := fun x z => if_pos (by decide)
  have z192 : ∀ {α : Type} (x z : α), zf 109 192 x z = z := fun x z => if_neg (by decide)
  have z256 : ∀ {α : Type} (x z : α), zf 109 256 x z = x := fun x z => if_pos (by decide)
  have z512 : ∀ {α : Type} (x z : α), zf 109 512 x z = x := fun x z => if_pos (by decide)
  have z1024 : ∀ {α : Type} (x z : α), zf 109 1024 x z = x := fun x z => if_pos (by decide)
  have z2048 : ∀ {α : Type} (x z : α), zf 109 2048 x z = x := fun x z => if_pos (by decide)
  have z4096 : ∀ {α : Type} (x z : α), zf 109 4096 x z = x := fun x z => if_pos (by decide)
  have z8192 : ∀ {α : Type} (x z : α), zf 109 8192 x z = x := fun x z => if_pos (by decide)
  have p4 : (bits .and .i64 109 4 = 0) = False := by simp; try decide
  have p16 : (bits .and .i64 109 16 = 0) = True := by simp; try decide
  have p128 : (bits .and .i64 109 128 = 0) = True := by simp; try decide
  have p64 : (bits .and .i64 109 64 = 0) = False := by simp; try decide
  have p256 : (bits .and .i64 109 256 = 0) = True := by simp; try decide
  have p8192 : (bits .and .i64 109 8192 = 0) = True := by simp; try decide
  have hs : shP 109 = [105, 116, 112, 115, 101] := by decide
  rw [hs]
  rw [small_iff]
  simp only [RtB, Zer, z1, z2, z4, z8, z16, z32, z64, z128, z192, z256, z512, z1024, z2048, z4096, z8192, p4, p16, p128, p64, p256, p8192, Emp, decide_eq_true_eq, only, List.foldl_cons, List.foldl_nil, setL_105, setL_116, setL_112, setL_115, setL_101, M.nil, List.mem_cons, List.not_mem_nil, or_false, forall_eq_or_imp, forall_eq, false_imp_iff, implies_true, okL_105, okL_116, okL_112, okL_115, okL_101, true_and, and_true, true_or, false_or]
  have hv0 := maxL_le vs h.vs 4611686018427387903 (by decide)
  have e1 : nm.length = 0 ↔ nm = [] := List.length_eq_zero_iff
  have e2 : vs.length = 0 ↔ vs = [] := List.length_eq_zero_iff
  have e3 : rs.length = 0 ↔ rs = [] := List.length_eq_zero_iff
  simp only [hv0, e1, e2, e3, ne_eq, not_or, Int.not_lt, M.mk.injEq, true_and, and_true, and_assoc]
  clear h hv0 e1 e2 e3 z1 z2 z4 z8 z16 z32 z64 z128 z192 z256 z512 z1024 z2048 z4096 z8192 p4 p16 p128 p64 p256 p8192 hs
  constructor
  · intro hh
    simp_all
    all_goals try omega
  · intro hh
    simp_all
    all_goals try omega
set_option maxHeartbeats 4000000 in
theorem rt10240 (m : M) (h : m.Ok) : RtB 10240 m.id m.al m.nm m.pr m.od m.sg m.so m.eg m.eo m.sm m.cd m.rs.length m.n m.ve m.vs = true ↔ (m = only m (shP 10240) ∧ m.rs.length ≤ 64 ∧ small m ∧ ∀ c ∈ shP 10240, okL m c = true) := by
  obtain ⟨kd, id, al, nm, pr, od, sg, so, eg, eo, sm, cd, rs, n, ve, vs⟩ := m
  have z1 : ∀ {α : Type} (x z : α), zf 10240 1 x z = x := fun x z => if_pos (by decide)
  have z2 : ∀ {α : Type} (x z : α), zf 10240 2 x z = x := fun x z => if_pos (by decide)
  have z4 : ∀ {α : Type} (x z : α), zf 10240 4 x z = x := fun x z => if_pos (by decide)
  have z8 : ∀ {α : Type} (x z : α), zf 10240 8 x z = x := fun x z => if_pos (by decide)
  have z16 : ∀ {α : Type} (x z : α), zf 10240 16 x z = x := fun x z => if_pos (by decide)
  have z32 : ∀ {α : Type} (x z : α), zf 10240 32 x z = x := fun x z => if_pos (by decide)
  have z64 : ∀ {α : Type} (x z : α), zf 10240 64 x z = x := fun x z => if_pos (by decide)
  have z128 : ∀ {α : Type} (x z : α), zf 10240 128 x z = x := fun x z => if_pos (by decide)
  have z192 : ∀ {α : Type} (x z : α), zf 10240 192 x z = x := fun x z => if_pos (by decide)
  have z256 : ∀ {α : Type} (x z : α), zf 10240 256 x z = x := fun x z => if_pos (by decide)
  have z512 : ∀ {α : Type} (x z : α), zf 10240 512 x z = x := fun x z => if_pos (by decide)
  have z1024 : ∀ {α : Type} (x z : α), zf 10240 1024 x z = x := fun x z => if_pos (by decide)
  have z2048 : ∀ {α : Type} (x z : α), zf 10240 2048 x z = z := fun x z => if_neg (by decide)
  have z4096 : ∀ {α : Type} (x z : α), zf 10240 4096 x z = x := fun x z => if_pos (by decide)
  have z8192 : ∀ {α : Type} (x z : α), zf 10240 8192 x z = z := fun x z => if_neg (by decide)
  have p4 : (bits .and .i64 10240 4 = 0) = True := by simp; try decide
  have p16 : (bits .and .i64 10240 16 = 0) = True := by simp; try decide
  have p128 : (bits .and .i64 10240 128 = 0) = True := by simp; try decide
  have p64 : (bits .and .i64 10240 64 = 0) = True := by simp; try decide
  have p256 : (bits .and .i64 10240 256 = 0) = True := by simp; try decide
  have p8192 : (bits .and .i64 10240 8192 = 0) = False := by simp; try decide
  have hs : shP 10240 = [108, 110] := by decide
  rw [hs]
  rw [small_iff]
  simp only [RtB, Zer, z1, z2, z4, z8, z16, z32, z64, z128, z192, z256, z512, z1024, z2048, z4096, z8192, p4, p16, p128, p64, p256, p8192, Emp, decide_eq_true_eq, only, List.foldl_cons, List.foldl_nil, setL_108, setL_110, M.nil, List.mem_cons, List.not_mem_nil, or_false, forall_eq_or_imp, forall_eq, false_imp_iff, implies_true, okL_108, okL_110, true_and, and_true, true_or, false_or]
  have hv0 := maxL_le vs h.vs 4611686018427387903 (by decide)
  have e1 : nm.length = 0 ↔ nm = [] := List.length_eq_zero_iff
  have e2 : vs.length = 0 ↔ vs = [] := List.length_eq_zero_iff
  have e3 : rs.length = 0 ↔ rs = [] := List.length_eq_zero_iff
  simp only [hv0, e1, e2, e3, ne_eq, not_or, Int.not_lt, M.mk.injEq, true_and, and_true, and_assoc]
  clear h hv0 e1 e2 e3 z1 z2 z4 z8 z16 z32 z64 z128 z192 z256 z512 z1024 z2048 z4096 z8192 p4 p16 p128 p64 p256 p8192 hs
  constructor
  · intro hh
    simp_all
    all_goals try omega
  · intro hh
    simp_all
    all_goals try omega
set_option maxHeartbeats 4000000 in
theorem rt6144 (m : M) (h : m.Ok) : RtB 6144 m.id m.al m.nm m.pr m.od m.sg m.so m.eg m.eo m.sm m.cd m.rs.length m.n m.ve m.vs = true ↔ (m = only m (shP 6144) ∧ m.rs.length ≤ 64 ∧ small m ∧ ∀ c ∈ shP 6144, okL m c = true) := by
  obtain ⟨kd, id, al, nm, pr, od, sg, so, eg, eo, sm, cd, rs, n, ve, vs⟩ := m
  have z1 : ∀ {α : Type} (x z : α), zf 6144 1 x z = x := fun x z => if_pos (by decide)
  have z2 : ∀ {α : Type} (x z : α), zf 6144 2 x z = x := fun x z => if_pos (by decide)
  have z4 : ∀ {α : Type} (x z : α), zf 6144 4 x z = x := fun x z => if_pos (by decide)
  have z8 : ∀ {α : Type} (x z : α), zf 6144 8 x z = x := fun x z => if_pos (by decide)
  have z16 : ∀ {α : Type} (x z : α), zf 6144 16 x z = x := fun x z => if_pos (by decide)
  have z32 : ∀ {α : Type} (x z : α), zf 6144 32 x z = x := fun x z => if_pos (by decide)
  have z64 : ∀ {α : Type} (x z : α), zf 6144 64 x z = x := fun x z => if_pos (by decide)
  have z128 : ∀ {α : Type} (x z : α), zf 6144 128 x z = x := fun x z => if_pos (by decide)
  have z192 : ∀ {α : Type} (x z : α), zf 6144 192 x z = x := fun x z => if_pos (by decide)
  have z256 : ∀ {α : Type} (x z : α), zf 6144 256 x z = x := fun x z => if_pos (by decide)
  have z512 : ∀ {α : Type} (x z : α), zf 6144 512 x z = x := fun x z => if_pos (by decide)
  have z1024 : ∀ {α : Type} (x z : α), zf 6144 1024 x z = x := fun x z => if_pos (by decide)
  have z2048 : ∀ {α : Type} (x z : α), zf 6144 2048 x z = z := fun x z => if_neg (by decide)
  have z4096 : ∀ {α : Type} (x z : α), zf 6144 4096 x z = z := fun x z => if_neg (by decide)
  have z8192 : ∀ {α : Type} (x z : α), zf 6144 8192 x z = x := fun x z => if_pos (by decide)
  have p4 : (bits .and .i64 6144 4 = 0) = True := by simp; try decide
  have p16 : (bits .and .i64 6144 16 = 0) = True := by simp; try decide
  have p128 : (bits .and .i64 6144 128 = 0) = True := by simp; try decide
  have p64 : (bits .and .i64 6144 64 = 0) = True := by simp; try decide
  have p256 : (bits .and .i64 6144 256 = 0) = True := by simp; try decide
  have p8192 : (bits .and .i64 6144 8192 = 0) = True := by simp; try decide
  have hs : shP 6144 = [118, 110] := by decide
  rw [hs]
  rw [small_iff]
  simp only [RtB, Zer, z1, z2, z4, z8, z16, z32, z64, z128, z192, z256, z512, z1024, z2048, z4096, z8192, p4, p16, p128, p64, p256, p8192, Emp, decide_eq_true_eq, only, List.foldl_cons, List.foldl_nil, setL_118, setL_110, M.nil, List.mem_cons, List.not_mem_nil, or_false, forall_eq_or_imp, forall_eq, false_imp_iff, implies_true, okL_118, okL_110, true_and, and_true, true_or, false_or]
  have hv0 := maxL_le vs h.vs 4611686018427387903 (by decide)
  have e1 : nm.length = 0 ↔ nm = [] := List.length_eq_zero_iff
  have e2 : vs.length = 0 ↔ vs = [] := List.length_eq_zero_iff
  have e3 : rs.length = 0 ↔ rs = [] := List.length_eq_zero_iff
  simp only [hv0, e1, e2, e3, ne_eq, not_or, Int.not_lt, M.mk.injEq, true_and, and_true, and_assoc]
  clear h hv0 e1 e2 e3 z1 z2 z4 z8 z16 z32 z64 z128 z192 z256 z512 z1024 z2048 z4096 z8192 p4 p16 p128 p64 p256 p8192 hs
  constructor
  · intro hh
    simp_all
    all_goals try omega
  · intro hh
    simp_all
    all_goals try omega
theorem rt_iff (m : M) (h : m.Ok) : rt m = true ↔ Right m := by
  unfold rt Right
  cases hp : (prt m.kd).2 with
  | false => simp
  | true =>
    have hm := prt_mem m.kd hp
    simp only [Bool.true_and, true_and]
    generalize (prt m.kd).1 = P at hm ⊢
    simp only [SH, List.mem_cons, List.not_mem_nil, or_false] at hm
    rcases hm with rfl | rfl | rfl | rfl | rfl | rfl | rfl | rfl | rfl | rfl | rfl
    · exact rt191 m h
    · exact rt289 m h
    · exact rt1537 m h
    · exact rt5 m h
    · exact rt1 m h
    · exact rt4 m h
    · exact rt0 m h
    · exact rt2048 m h
    · exact rt109 m h
    · exact rt10240 m h
    · exact rt6144 m h
theorem joinN_one (a : Int) (t : List Int) : joinN [a] ++ t = vform a (vsz a) ++ t := by simp [joinN]
theorem joinN_two (a b : Int) (t : List Int) : joinN [a, b] ++ t = vform a (vsz a) ++ (vform b (vsz b) ++ t) := by simp [joinN]
theorem vtake_own (a : Int) (t : List Int) (h : 0 ≤ a) (h' : a ≤ 4611686018427387903) : vtake (vform a (vsz a) ++ t) = some (a, t) :=
  vtake_form a (vsz a) t h (vsz_in a (vsz_some h')) (vsz_some h') (Nat.le_refl _)
theorem vtext_own (l t : List Int) (h : l.length ≤ 1000) : vtext (txtB l ++ t) 65536 = (l, t, 0) := by
  have h1 : vtake (txtB l ++ t) = some ((l.length : Int), l ++ t) := by
    rw [show txtB l ++ t = vform (l.length : Int) (vsz l.length) ++ (l ++ t) by simp [txtB]]
    exact vtake_own _ _ (by omega) (by omega)
  rw [vtext_some 65536 h1, if_neg (by omega), if_neg (by rw [List.length_append]; omega)]
  simp
theorem takeN_own : ∀ (l a t : List Int), NumsOk l → (∀ x ∈ l, x ≤ 4611686018427387903) → takeN l.length a (joinN l ++ t) = some (a ++ l, t)
  | [], a, t, _, _ => by simp [takeN, joinN]
  | x :: r, a, t, h, k => by
    have e : joinN (x :: r) ++ t = vform x (vsz x) ++ (joinN r ++ t) := by simp [joinN]
    rw [e]
    show (match vtake (vform x (vsz x) ++ (joinN r ++ t)) with | none => none | some (y, s) => takeN r.length (a ++ [y]) s) = _
    rw [vtake_own x _ (h x (by simp)).1 (k x (by simp))]
    simp only []
    rw [takeN_own r (a ++ [x]) t (fun y hy => h y (by simp [hy])) (fun y hy => k y (by simp [hy]))]
    simp
def LETS : List Int := [105, 97, 116, 112, 111, 115, 101, 103, 98, 99, 114, 110, 118, 108]
theorem step_piece (m x : M) (c : Int) (t : List Int) (hc : c ∈ LETS) (h : m.Ok) (hs : small m) (hr : m.rs.length ≤ 64) (ho : okL m c = true) (hx : c = 108 → x.vs = []) : stepL c x (pieceL m c ++ t) = some (setL m x c, t) := by
  obtain ⟨s1, s2, s3, s4, s5, s6, s7, s8, s9, s10⟩ := (small_iff m).1 hs
  simp only [LETS, List.mem_cons, List.not_mem_nil, or_false] at hc
  rcases hc with rfl | rfl | rfl | rfl | rfl | rfl | rfl | rfl | rfl | rfl | rfl | rfl | rfl | rfl
  · rw [piece_105, joinN_one, setL_105]; unfold stepL; simp [vtake_own _ t h.id.1 s1]
  · rw [piece_97, joinN_one, setL_97]; unfold stepL; simp [vtake_own _ t h.al.1 s2]
  · rw [okL_116] at ho; rw [piece_116, setL_116]; unfold stepL; simp [vtext_own m.nm t (by omega)]
  · rw [piece_112, setL_112]; unfold stepL; simp
  · rw [piece_111, setL_111]; unfold stepL; simp
  · rw [piece_115, joinN_two, setL_115]; unfold stepL; simp [vtake_own _ (vform m.so (vsz m.so) ++ t) h.sg.1 s6, vtake_own _ t h.so.1 s7]
  · rw [piece_101, joinN_two, setL_101]; unfold stepL; simp [vtake_own _ (vform m.eo (vsz m.eo) ++ t) h.eg.1 s8, vtake_own _ t h.eo.1 s9]
  · rw [piece_103, joinN_one, setL_103]; unfold stepL; simp [vtake_own _ t h.eg.1 s8]
  · rw [piece_98, setL_98]; unfold stepL; cases m.sm <;> simp [b01]
  · rw [piece_99, joinN_one, setL_99]; unfold stepL; simp [vtake_own _ t h.cd.1 s3]
  · rw [piece_114, setL_114]; unfold stepL; simp [vtext_own m.rs t (by omega)]
  · rw [piece_110, joinN_one, setL_110]; unfold stepL; simp [vtake_own _ t h.n.1 s4]
  · rw [piece_118, joinN_one, setL_118]; unfold stepL; simp [vtake_own _ t h.ve.1 s5]
  · rw [okL_108] at ho
    have e1 := hx rfl
    have e2 : ((m.vs.length : Int)).toNat = m.vs.length := by omega
    have e3 : (m.vs.length : Int) ≤ 8 := by omega
    rw [piece_108, List.append_assoc, joinN_one, setL_108]
    unfold stepL
    simp [vtake_own _ (joinN m.vs ++ t) (by omega : 0 ≤ (m.vs.length : Int)) (by omega), e1, e2, e3, takeN_own m.vs [] t h.vs s10]
theorem fb_eq (m : M) (L : List Int) (a : List Int) : L.foldl (fun l c => l ++ pieceL m c) a = a ++ fb m L := by
  induction L generalizing a with
  | nil => simp [fb]
  | cons c L ih => simp only [fb, List.foldl_cons, List.nil_append] at ih ⊢; rw [ih, ih (pieceL m c), List.append_assoc]
theorem fb_cons (m : M) (c : Int) (L : List Int) : fb m (c :: L) = pieceL m c ++ fb m L := by
  show L.foldl _ ([] ++ pieceL m c) = _
  rw [List.nil_append, fb_eq]
theorem parse_own (m : M) (h : m.Ok) (hs : small m) (hr : m.rs.length ≤ 64) : ∀ (L : List Int) (x : M) (t : List Int), (∀ c ∈ L, c ∈ LETS) → L.Nodup → (∀ c ∈ L, okL m c = true) → (108 ∈ L → x.vs = []) → parse L x (fb m L ++ t) = some (L.foldl (setL m) x, t)
  | [], x, t, _, _, _, _ => by simp [parse, fb]
  | c :: L, x, t, h1, h2, h3, h4 => by
    rw [fb_cons, List.append_assoc, parse, step_piece m x c _ (h1 c (by simp)) h hs hr (h3 c (by simp)) (fun e => h4 (by simp [e]))]
    simp only [List.foldl_cons]
    refine parse_own m h hs hr L _ t (fun d hd => h1 d (by simp [hd])) (List.nodup_cons.1 h2).2 (fun d hd => h3 d (by simp [hd])) (fun hm => ?_)
    have hc : c ≠ 108 := fun e => (List.nodup_cons.1 h2).1 (e ▸ hm)
    have hx := h4 (by simp [hm])
    have hl := h1 c (by simp)
    simp only [LETS, List.mem_cons, List.not_mem_nil, or_false] at hl
    rcases hl with rfl | rfl | rfl | rfl | rfl | rfl | rfl | rfl | rfl | rfl | rfl | rfl | rfl | rfl
    all_goals first | exact hx | exact absurd rfl hc
theorem shP_ok : ∀ P ∈ SH, (∀ c ∈ shP P, c ∈ LETS) ∧ (shP P).Nodup := by decide
/-- What was written is read. -/
theorem parse_right (m : M) (h : m.Ok) (hR : Right m) : parse (shP (prt m.kd).1) (M.nil m.kd) (fb m (shP (prt m.kd).1)) = some (m, []) := by
  obtain ⟨h0, h1, h2, h3, h4⟩ := hR
  obtain ⟨k1, k2⟩ := shP_ok _ (prt_mem _ h0)
  have := parse_own m h h3 h2 (shP (prt m.kd).1) (M.nil m.kd) [] k1 k2 h4 (fun _ => rfl)
  rw [List.append_nil] at this
  rw [this]
  exact congrArg (fun y => some (y, [])) h1.symm

end Go.Proofs.YtjijmbpgfabgcaaDoor
