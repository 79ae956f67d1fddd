/- A part of the proof: see the last text. -/
import Derived.Test.YtcfmjomniaopcaaDoorEngY
import Derived.Test.YtcfmjomniaopcaaDoorR2Tab
set_option linter.unusedSimpArgs false
set_option linter.unusedVariables false
/- The data of schemas. -/
namespace Go.Eng
open Go Go.Proofs
abbrev Str := List UInt8
structure Col where
  name : Str
  a : I64
  b : I64
  c : I64
  d : I64
  e : Bool
def encCol (c : Col) : D := .agg [.str c.name, .int .i64 c.a.1, .int .i64 c.b.1, .int .i64 c.c.1, .int .i64 c.d.1, .bool c.e]
structure Fgn where
  cols : Sl I64
  table : I64
  key : I64
def encFgn (f : Fgn) : D := .agg [sl 1 I f.cols, .int .i64 f.table.1, .int .i64 f.key.1]
/-- Expressions, as data. -/
inductive IsEx : D → Prop
  | leaf (a : I64) (s t : Str) (b c d : I64) (u : Str) : IsEx (.agg [.int .i64 a.1, .str s, .str t, .int .i64 b.1, .int .i64 c.1, .int .i64 d.1, .str u, .nil])
  | node (a : I64) (s t : Str) (b c d : I64) (u : Str) (l : List D) (hl : l.length < 4611686018427387904) (h : ∀ x, x ∈ l → IsEx x) : IsEx (.agg [.int .i64 a.1, .str s, .str t, .int .i64 b.1, .int .i64 c.1, .int .i64 d.1, .str u, .slice none 8 l])
abbrev Ex : Type := { d : D // IsEx d }
def encEx (e : Ex) : D := e.1
structure ExR where
  a : I64
  s : Str
  t : Str
  b : I64
  c : I64
  d : I64
  u : Str
  args : Sl Ex
def ExR.enc (r : ExR) : D := .agg [.int .i64 r.a.1, .str r.s, .str r.t, .int .i64 r.b.1, .int .i64 r.c.1, .int .i64 r.d.1, .str r.u, sl 8 encEx r.args]
theorem Ex.open (e : Ex) : ∃ r : ExR, encEx e = r.enc ∧ ∀ x ∈ r.args.items, SizeOf.sizeOf (encEx x) < SizeOf.sizeOf (encEx e) := by
  obtain ⟨d, h⟩ := e
  cases h with
  | leaf a s t b c d u => exact ⟨⟨a, s, t, b, c, d, u, ⟨none, by simp⟩⟩, rfl, fun x hx => by simp [Sl.items] at hx⟩
  | node a s t b c d u l hl h =>
    refine ⟨⟨a, s, t, b, c, d, u, ⟨some (l.attach.map fun x => (⟨x.1, h x.1 x.2⟩ : Ex)), by have : (l.attach.map fun x => (⟨x.1, h x.1 x.2⟩ : Ex)).length = l.length := (List.length_map ..).trans List.length_attach; exact this ▸ hl⟩⟩, ?_, ?_⟩
    · show D.agg _ = D.agg _
      congr 8
      show [D.slice none 8 _] = [D.slice none 8 _]
      congr 2
      rw [List.map_map]
      show l = l.attach.map fun x => x.1
      simp
    · intro x hx
      have hx : x ∈ l.attach.map fun x => (⟨x.1, h x.1 x.2⟩ : Ex) := hx
      obtain ⟨y, _, rfl⟩ := List.mem_map.1 hx
      have := List.sizeOf_lt_of_mem y.2
      show SizeOf.sizeOf y.1 < _
      unfold encEx
      simp
      omega
theorem Ex.close (r : ExR) : ∃ e : Ex, encEx e = r.enc := by
  cases hn : r.args.1 with
  | none => exact ⟨⟨_, .leaf r.a r.s r.t r.b r.c r.d r.u⟩, by simp [encEx, ExR.enc, sl, hn]⟩
  | some l =>
    refine ⟨⟨_, .node r.a r.s r.t r.b r.c r.d r.u (l.map encEx) ?_ ?_⟩, by simp [encEx, ExR.enc, sl, hn]⟩
    · have := r.args.lt; simp [Sl.items, hn] at this; simpa using this
    · intro x hx; obtain ⟨y, _, rfl⟩ := List.mem_map.1 hx; exact y.2
structure Tbl where
  name : Str
  cols : Sl Col
  keys : Sl (Sl I64)
  fgns : Sl Fgn
  checks : Sl Ex
def encTbl (t : Tbl) : D := .agg [.str t.name, sl 6 encCol t.cols, sl 1 (sl 1 I) t.keys, sl 3 encFgn t.fgns, sl 8 encEx t.checks]
/-- A foreign key in a statement. -/
structure FgS where
  cols : Sl Str
  table : Str
  refs : Sl Str
def encFgS (f : FgS) : D := .agg [sl 1 S f.cols, .str f.table, sl 1 S f.refs]
/-- Cells that no one looks at. -/
def Rest (n : Nat) : Type := { l : List D // l.length = n ∧ ∀ g : Nat → Nat → Nat → Nat → D, stripFL g l = l }
/-- A statement: what CREATE TABLE looks at, and the rest. -/
structure Stm where
  kind : I64
  name : Str
  cols : Sl Col
  keys : Sl (Sl Str)
  fgns : Sl FgS
  checks : Sl Ex
  rest : Rest 16
def encStm (s : Stm) : D := .agg (.int .i64 s.kind.1 :: .str s.name :: sl 6 encCol s.cols :: sl 1 (sl 1 S) s.keys :: sl 3 encFgS s.fgns :: sl 8 encEx s.checks :: s.rest.1)
@[go_sem] theorem rest_len {n : Nat} (r : Rest n) : r.1.length = n := r.2.1
@[go_sem] theorem rest_strip {n : Nat} (r : Rest n) (g : Nat → Nat → Nat → Nat → D) : stripFL g r.1 = r.1 := r.2.2 g
section
variable {g : Nat → Nat → Nat → Nat → D}
@[go_sem] theorem strip_Ex (e : Ex) : stripF g (encEx e) = encEx e := by
  obtain ⟨d, h⟩ := e
  show stripF g d = d
  induction h with
  | leaf => rfl
  | node a s t b c d u l hl h ih =>
    simp only [go_sem]
    have : stripFL g l = l := by
      clear hl h
      induction l with
      | nil => rfl
      | cons x r ihr => simp only [go_sem, ih x (by simp)]; rw [ihr fun y hy => ih y (by simp [hy])]
    rw [this]
theorem strip_Col (c : Col) : stripF g (encCol c) = encCol c := rfl
theorem strip_Fgn (c : Fgn) : stripF g (encFgn c) = encFgn c := by simp only [encFgn, go_sem]
@[go_sem] theorem strip_slEx (k : Nat) (s : Sl Ex) : stripF g (sl k encEx s) = sl k encEx s := strip_sl k _ s strip_Ex
@[go_sem] theorem strip_slCol (k : Nat) (s : Sl Col) : stripF g (sl k encCol s) = sl k encCol s := strip_sl k _ s strip_Col
@[go_sem] theorem strip_slFgn (k : Nat) (s : Sl Fgn) : stripF g (sl k encFgn s) = sl k encFgn s := strip_sl k _ s strip_Fgn
theorem strip_Tbl (c : Tbl) : stripF g (encTbl c) = encTbl c := by simp only [encTbl, go_sem]
@[go_sem] theorem strip_slTbl (k : Nat) (s : Sl Tbl) : stripF g (sl k encTbl s) = sl k encTbl s := strip_sl k _ s strip_Tbl
theorem strip_FgS (c : FgS) : stripF g (encFgS c) = encFgS c := by simp only [encFgS, go_sem]
@[go_sem] theorem strip_slFgS (k : Nat) (s : Sl FgS) : stripF g (sl k encFgS s) = sl k encFgS s := strip_sl k _ s strip_FgS
@[go_sem] theorem strip_slSS (k k' : Nat) (s : Sl (Sl Str)) : stripF g (sl k (sl k' S) s) = sl k (sl k' S) s := strip_sl k _ s fun x => strip_slS k' x
theorem strip_Stm (c : Stm) : stripF g (encStm c) = encStm c := by simp only [encStm, go_sem]
@[go_sem] theorem strip_slStm (k : Nat) (s : Sl Stm) : stripF g (sl k encStm s) = sl k encStm s := strip_sl k _ s strip_Stm
theorem strip_ExR (r : ExR) : stripF g r.enc = r.enc := by simp only [ExR.enc, go_sem]
end
@[go_sem] theorem encCol_eq (c : Col) : encCol c = .agg [.str c.name, .int .i64 c.a.1, .int .i64 c.b.1, .int .i64 c.c.1, .int .i64 c.d.1, .bool c.e] := rfl
@[go_sem] theorem encFgn_eq (f : Fgn) : encFgn f = .agg [sl 1 I f.cols, .int .i64 f.table.1, .int .i64 f.key.1] := rfl
@[go_sem] theorem encTbl_eq (t : Tbl) : encTbl t = .agg [.str t.name, sl 6 encCol t.cols, sl 1 (sl 1 I) t.keys, sl 3 encFgn t.fgns, sl 8 encEx t.checks] := rfl
@[go_sem] theorem encFgS_eq (f : FgS) : encFgS f = .agg [sl 1 S f.cols, .str f.table, sl 1 S f.refs] := rfl
@[go_sem] theorem encStm_eq (s : Stm) : encStm s = .agg (.int .i64 s.kind.1 :: .str s.name :: sl 6 encCol s.cols :: sl 1 (sl 1 S) s.keys :: sl 3 encFgS s.fgns :: sl 8 encEx s.checks :: s.rest.1) := rfl
@[go_sem] theorem ExR_eq (r : ExR) : r.enc = .agg [.int .i64 r.a.1, .str r.s, .str r.t, .int .i64 r.b.1, .int .i64 r.c.1, .int .i64 r.d.1, .str r.u, sl 8 encEx r.args] := rfl
@[go_sem] theorem ex_len (e : Ex) : (encEx e).cells.length = 8 := by
  obtain ⟨r, he, _⟩ := e.open
  rw [he]; rfl
@[go_sem] theorem agg_Ex (e : Ex) : D.agg (List.take 8 (encEx e).cells) = encEx e := by
  obtain ⟨r, he, _⟩ := e.open
  rw [he]; rfl
end Go.Eng
namespace Go.Eng
open Go Go.Proofs
open Nat (reduceAdd reduceMul reduceSub)
set_option maxRecDepth 20000
set_option maxHeartbeats 32000000
attribute [local irreducible] wpI endP
variable {G : Nat → Option (List D)}
theorem take_all {α : Type} {P : α → Prop} {l : List α} {k : Nat} {x : α} (h : ∀ y ∈ l.take k, P y) (g : l[k]? = some x) (hx : P x) : ∀ y ∈ l.take (k + 1), P y := by
  intro y hy
  rw [List.take_add_one, g] at hy
  rcases List.mem_append.1 hy with hy | hy
  · exact h y hy
  · have hy : y = x := by simpa using hy
    subst hy; exact hx
/-- No node of an expression has many operands. -/
inductive FineE : D → Prop
  | mk (r : ExR) (h : r.args.items.length ≤ 8) (k : ∀ x ∈ r.args.items, FineE (encEx x)) : FineE r.enc
/-- few: a bool. -/
theorem few (n : Int) (s : Sl (List UInt8)) : ∃ b, callP (XG G) TT 54 [.int .i64 n, sl 1 S s] = some (.bool b) ∧ (b = true → n ≤ 20 ∧ s.items.length ≤ 20) := by
  suffices h : ∃ v, callP (XG G) TT 54 [.int .i64 n, sl 1 S s] = some v ∧ ∃ b, v = .bool b ∧ (b = true → n ≤ 20 ∧ s.items.length ≤ 20) by
    obtain ⟨v, h1, b, rfl, h2⟩ := h; exact ⟨b, h1, h2⟩
  refine callP_body T54 rfl (by simp only [go_sem]) ?_
  unfold Tryd.f54
  simp only [Option.getD_some]
  simp +decide only[go_sem,reduceAdd,reduceMul,reduceSub]
  refine gw trivial ?_
  refine wpI_loop (T := Nat) [0, 1, 5] (fun k => ⟨slL [(0, .int .i64 n), (1, sl 1 S s), (5, .int .i64 (k : Int))], opL [], opL [], ⟨[], []⟩⟩) (fun k => k ≤ s.items.length) (fun k => s.items.length - k) 0 rfl (by simp +decide only[go_sem,reduceAdd,reduceMul,reduceSub] <;> rfl) (by simp) ?_
  rintro k hk
  have hlt := s.lt
  by_cases h : k < s.items.length
  · have h1 : ((k : Int) < (s.items.length : Int)) = True := by simp; omega
    obtain ⟨a, ha⟩ : ∃ a, s.items[k]? = some a := ⟨_, List.getElem?_eq_getElem h⟩
    have hw := wrap_nat k (by omega)
    refine gw (an h1 (an ha hw)) ?_
    by_cases h2 : (60 : Int) < a.length
    · refine gw (an h1 h2) ?_
      simp +decide only[go_sem,reduceAdd,reduceMul,reduceSub]
      exact ⟨_, rfl, fun h => by cases h⟩
    · refine gw (an h1 (an h2 hw)) ?_
      exact ⟨k + 1, by simp +decide only[go_sem,reduceAdd,reduceMul,reduceSub] <;> rfl, by omega, by omega⟩
  · have h1 : ((k : Int) < (s.items.length : Int)) = False := by simp; omega
    refine gw h1 ?_
    by_cases h2 : n ≤ 20
    · refine gw (an h1 h2) ?_
      simp +decide only[go_sem,reduceAdd,reduceMul,reduceSub]
      exact ⟨_, rfl, fun h => by simp at h; omega⟩
    · refine gw (an h1 h2) ?_
      simp +decide only[go_sem,reduceAdd,reduceMul,reduceSub]
      exact ⟨_, rfl, fun h => by simp at h⟩
/-- fine: a bool. -/
theorem fine_step (e : Ex) (n : Int) (r : ExR) (he : encEx e = r.enc) (ih : ∀ x ∈ r.args.items, ∀ n : Int, ∃ b, callP (XG G) TT 55 [encEx x, .int .i64 n] = some (.bool b) ∧ (b = true → FineE (encEx x))) :
    ∃ b, callP (XG G) TT 55 [encEx e, .int .i64 n] = some (.bool b) ∧ (b = true → FineE (encEx e)) := by
  suffices h : ∃ v, callP (XG G) TT 55 [encEx e, .int .i64 n] = some v ∧ ∃ b, v = .bool b ∧ (b = true → FineE (encEx e)) by
    obtain ⟨v, h1, b, rfl, h2⟩ := h; exact ⟨b, h1, h2⟩
  have hlt := r.args.lt
  rw [he]
  refine callP_body T55 rfl (by simp only [go_sem, strip_ExR]) ?_
  unfold Tryd.f55
  simp only [Option.getD_some]
  simp +decide only[go_sem,reduceAdd,reduceMul,reduceSub]
  refine gw trivial ?_
  by_cases h1 : n = 0
  · have h1 : (n == 0) = true := by simp [h1]
    refine gw h1 ?_
    simp +decide only[go_sem,reduceAdd,reduceMul,reduceSub]
    exact ⟨_, rfl, fun h => by cases h⟩
  have h1 : (n == 0) = false := by simp [h1]
  by_cases h2 : (8 : Int) < (r.args.items.length : Int)
  · refine gw (an h1 h2) ?_
    simp +decide only[go_sem,reduceAdd,reduceMul,reduceSub]
    exact ⟨_, rfl, fun h => by cases h⟩
  refine gw (an h1 h2) ?_
  have hw : ∃ b, decide (100 < IntKind.i64.wrap (IntKind.i64.wrap ((r.s.length : Int) + (r.t.length : Int)) + (r.u.length : Int))) = b := ⟨_, rfl⟩
  obtain ⟨b, hw⟩ := hw
  cases b
  · refine gw (an h1 (an h2 hw)) ?_
    refine wpI_loop (T := Nat) [1, 2, 5] (fun k => ⟨slL [(1, .int .i64 n), (2, .undef), (5, .int .i64 (k : Int))], opL [(2, (2, 0))], opL [(2, r.enc.cells)], ⟨[], []⟩⟩) (fun k => k ≤ r.args.items.length ∧ ∀ y ∈ r.args.items.take k, FineE (encEx y)) (fun k => r.args.items.length - k) 0 rfl (by simp +decide only[go_sem,reduceAdd,reduceMul,reduceSub] <;> rfl) (by simp) ?_
    rintro k ⟨hk, hP⟩
    by_cases h : k < r.args.items.length
    · have h3 : ((k : Int) < (r.args.items.length : Int)) = True := by simp; omega
      obtain ⟨a, ha⟩ : ∃ a, r.args.items[k]? = some a := ⟨_, List.getElem?_eq_getElem h⟩
      have hx := wrap_nat k (by omega)
      obtain ⟨b, hb, hbf⟩ := ih a (List.mem_of_getElem? ha) (IntKind.i64.wrap (n - 1))
      simp +decide only[go_sem,reduceAdd,reduceMul,reduceSub]
      refine gw (an h3 (an ha (an hx hb))) ?_
      cases b
      · refine gw (an h3 (an ha (an hx hb))) ?_
        simp +decide only[go_sem,reduceAdd,reduceMul,reduceSub]
        exact ⟨_, rfl, fun h => by cases h⟩
      · refine gw (an h3 (an ha (an hx hb))) ?_
        exact ⟨k + 1, by simp +decide only[go_sem,reduceAdd,reduceMul,reduceSub] <;> rfl, ⟨by omega, take_all hP ha (hbf rfl)⟩, by omega⟩
    · have h3 : ((k : Int) < (r.args.items.length : Int)) = False := by simp; omega
      refine gw h3 ?_
      simp +decide only[go_sem,reduceAdd,reduceMul,reduceSub]
      rw [List.take_of_length_le (by omega)] at hP
      exact ⟨_, rfl, fun _ => .mk r (by omega) hP⟩
  · refine gw (an h1 (an h2 hw)) ?_
    simp +decide only[go_sem,reduceAdd,reduceMul,reduceSub]
    exact ⟨_, rfl, fun h => by cases h⟩
theorem fine_n : ∀ (N : Nat) (e : Ex), SizeOf.sizeOf (encEx e) < N → ∀ n : Int, ∃ b, callP (XG G) TT 55 [encEx e, .int .i64 n] = some (.bool b) ∧ (b = true → FineE (encEx e))
  | 0, e, h, n => absurd h (Nat.not_lt_zero _)
  | N + 1, e, h, n => by
    obtain ⟨r, he, hs⟩ := e.open
    exact fine_step e n r he fun x hx n => fine_n N x (by have := hs x hx; omega) n
theorem fine (e : Ex) (n : Int) : ∃ b, callP (XG G) TT 55 [encEx e, .int .i64 n] = some (.bool b) ∧ (b = true → FineE (encEx e)) := fine_n _ e (Nat.lt_succ_self _) n
end Go.Eng
