/- A part of the proof: see the last text. -/
import Derived.Test.YtcfmjomniaopcaaDoorKR2Pe
set_option linter.unusedSimpArgs false
set_option linter.unusedVariables false
/- Plans, as data. -/
namespace Go.Eng
open Go Go.Proofs
inductive IsPl : D → Prop
  | leaf (k s : I64) (c : Sl I64) (e : Sl Ex) (r : ExR) : IsPl (.agg [.int .i64 k.1, .int .i64 s.1, sl 1 I c, sl 8 encEx e, .int .i64 r.a.1, .str r.s, .str r.t, .int .i64 r.b.1, .int .i64 r.c.1, .int .i64 r.d.1, .str r.u, sl 8 encEx r.args, .nil])
  | node (k s : I64) (c : Sl I64) (e : Sl Ex) (r : ExR) (l : List D) (hl : l.length < 4611686018427387904) (h : ∀ x, x ∈ l → IsPl x) : IsPl (.agg [.int .i64 k.1, .int .i64 s.1, sl 1 I c, sl 8 encEx e, .int .i64 r.a.1, .str r.s, .str r.t, .int .i64 r.b.1, .int .i64 r.c.1, .int .i64 r.d.1, .str r.u, sl 8 encEx r.args, .slice none 13 l])
abbrev Pl : Type := { d : D // IsPl d }
def encPl (e : Pl) : D := e.1
structure PlR where
  k : I64
  s : I64
  c : Sl I64
  e : Sl Ex
  r : ExR
  args : Sl Pl
def PlR.enc (p : PlR) : D := .agg [.int .i64 p.k.1, .int .i64 p.s.1, sl 1 I p.c, sl 8 encEx p.e, .int .i64 p.r.a.1, .str p.r.s, .str p.r.t, .int .i64 p.r.b.1, .int .i64 p.r.c.1, .int .i64 p.r.d.1, .str p.r.u, sl 8 encEx p.r.args, sl 13 encPl p.args]
@[go_sem] theorem PlR_eq (p : PlR) : p.enc = .agg [.int .i64 p.k.1, .int .i64 p.s.1, sl 1 I p.c, sl 8 encEx p.e, .int .i64 p.r.a.1, .str p.r.s, .str p.r.t, .int .i64 p.r.b.1, .int .i64 p.r.c.1, .int .i64 p.r.d.1, .str p.r.u, sl 8 encEx p.r.args, sl 13 encPl p.args] := rfl
theorem Pl.open (e : Pl) : ∃ p : PlR, encPl e = p.enc ∧ ∀ x ∈ p.args.items, SizeOf.sizeOf (encPl x) < SizeOf.sizeOf (encPl e) := by
  obtain ⟨d, h⟩ := e
  cases h with
  | leaf k s c e r => exact ⟨⟨k, s, c, e, r, ⟨none, by simp⟩⟩, rfl, fun x hx => by simp [Sl.items] at hx⟩
  | node k s c e r l hl h =>
    refine ⟨⟨k, s, c, e, r, ⟨some (l.attach.map fun x => (⟨x.1, h x.1 x.2⟩ : Pl)), by have : (l.attach.map fun x => (⟨x.1, h x.1 x.2⟩ : Pl)).length = l.length := (List.length_map ..).trans List.length_attach; exact this ▸ hl⟩⟩, ?_, ?_⟩
    · show D.agg _ = D.agg _
      congr 13
      show [D.slice none 13 _] = [D.slice none 13 _]
      congr 2
      rw [List.map_map]
      show l = l.attach.map fun x => x.1
      simp
    · intro x hx
      have hx : x ∈ l.attach.map fun x => (⟨x.1, h x.1 x.2⟩ : Pl) := hx
      obtain ⟨y, _, rfl⟩ := List.mem_map.1 hx
      have := List.sizeOf_lt_of_mem y.2
      show SizeOf.sizeOf y.1 < _
      unfold encPl
      simp
      omega
@[go_sem] theorem strip_Pl {g : Nat → Nat → Nat → Nat → D} (e : Pl) : stripF g (encPl e) = encPl e := by
  obtain ⟨d, h⟩ := e
  show stripF g d = d
  induction h with
  | leaf => simp only [go_sem]
  | node k s c e r l hl h ih =>
    simp only [go_sem]
    have : stripFL g l = l := by
      clear hl h
      induction l with
      | nil => rfl
      | cons x r ihr => simp only [go_sem, ih x (by simp)]; rw [ihr fun y hy => ih y (by simp [hy])]
    rw [this]
@[go_sem] theorem strip_slPl {g : Nat → Nat → Nat → Nat → D} (k : Nat) (s : Sl Pl) : stripF g (sl k encPl s) = sl k encPl s := strip_sl k _ s strip_Pl
@[go_sem] theorem pl_len (e : Pl) : (encPl e).cells.length = 13 := by
  obtain ⟨r, he, _⟩ := e.open
  rw [he]; rfl
@[go_sem] theorem agg_Pl (e : Pl) : D.agg (List.take 13 (encPl e).cells) = encPl e := by
  obtain ⟨r, he, _⟩ := e.open
  rw [he]; rfl
end Go.Eng
