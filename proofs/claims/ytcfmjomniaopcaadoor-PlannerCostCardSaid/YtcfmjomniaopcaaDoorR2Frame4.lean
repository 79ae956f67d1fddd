/- A part of the proof: see the last text. -/
import Derived.Test.YtcfmjomniaopcaaDoorRows
import Derived.Below
import Derived.FnData
import Derived.Carry
import Derived.LaidHandle
import Derived.LaidLaws
import Derived.WideWitness
import Derived.Handed
import Derived.ProofKit
import Derived.OpenShut
import Derived.Test.YtcfmjomniaopcaaDoorR2Read3
import Derived.Test.YtcfmjomniaopcaaDoorR2Awake
import Derived.Test.YtcfmjomniaopcaaDoorKR2Vr
import Derived.Test.YtcfmjomniaopcaaDoorKR2Pg
set_option linter.unusedSimpArgs false
set_option linter.unusedVariables false
/- From the machine to the given program: a law of chapter 45 that the machine answers with true returns true, and leaves what was there. -/
namespace Go.Eng
open Go Go.Proofs Go.Proofs.YtcfmjomniaopcaaDoor
theorem plainGK : PlainG (XG GK) := by
  intro g cs h
  have h : GK g = some cs := h
  unfold GK at h
  split at h
  · cases h; rfl
  · cases h
section
variable {H : Type} {enc : TypeId × Value → H} {P : Program} {W : World}
/-- A slice of integers, its elements known. -/
theorem ints_known {base fuel t e : Nat} {spare : Nat → Bool} {held : Bool} (ht : P.underlying t = some (.slice e)) (he : P.underlying e = some (.int .i64)) (hk : P.cellsOf e = 1) {cs : List Value} {l : List Int} {sp : List (DataW H)} {ps : List MemPlace}
    (hbig : l.length ≤ 140737488355328) (hx : DataW.trod enc P W base spare held fuel t cs = some (.slice (l.map fun s => .lit (.int .i64 s)) sp, ps)) : HasC W Sh0 [.slice none 1 (l.map (.int .i64))] cs := by
  rcases DataW.trod_slice ht hx with ⟨_, h⟩ | ⟨a, len, cap, elems, rest, n, rfl, rfl, h, _, hl, hm, hlen, hel, _, _⟩
  · cases h
  have h1 : (l.map fun s => (.lit (.int .i64 s) : DataW H)) = elems.map (·.1) := by
    have := congrArg Prod.fst h
    simpa using (DataW.slice.inj this).1
  have hll : l.length = len := by
    have := congrArg List.length h1
    simp at this; omega
  rw [← hll]
  refine hasC_one (slice_core (base := base) (k := 1) (by omega) (f := D.int .i64) (fun _ => rfl) (by omega) hbig fun i s hs => ?_) rfl
  have hi : i < len := by rw [← hll]; exact (List.getElem?_eq_some_iff.1 hs).1
  have h2 := hel i hi
  obtain ⟨y, hy⟩ : ∃ y, elems[i]? = some y := ⟨_, List.getElem?_eq_getElem (by omega)⟩
  rw [hy] at h2
  obtain ⟨cs', h3, h4⟩ := Option.bind_eq_some_iff.1 h2
  rw [hk] at h3
  obtain ⟨b, rfl, hb, _⟩ := DataW.trod_int he h4
  have h5 := congrArg (fun z => z[i]?) h1
  simp only [List.getElem?_map, hs, hy, Option.map_some, hb] at h5
  have h6 : s = b := by
    have := Option.some.inj h5
    cases this; rfl
  subst h6
  exact ⟨_, h3, hasC_one (.int _ _) rfl⟩
/-- An array of two slices of integers. -/
theorem two_known {base fuel t e f : Nat} {spare : Nat → Bool} {held : Bool} (ht : P.underlying t = some (.array 2 e)) (hct : P.cellsOf t = 2) (hke : P.cellsOf e = 1) (he : P.underlying e = some (.slice f)) (hf : P.underlying f = some (.int .i64)) (hk : P.cellsOf f = 1) {cs : List Value} {a b : List Int} {s1 s2 : List (DataW H)} {ps : List MemPlace}
    (ha : a.length ≤ 9) (hb : b.length ≤ 9) (hx : DataW.trod enc P W base spare held fuel t cs = some (.agg [.slice (a.map fun s => .lit (.int .i64 s)) s1, .slice (b.map fun s => .lit (.int .i64 s)) s2], ps)) :
    HasC W Sh0 [.slice none 1 (a.map (.int .i64)), .slice none 1 (b.map (.int .i64))] cs := by
  obtain ⟨xs, m, _, ex, hlen, hl, hel⟩ := DataW.trod_array ht hx
  match xs, hl with
  | [x0, x1], _ =>
    have e0 := hel 0 (by omega)
    have e1 := hel 1 (by omega)
    simp only [hke, Nat.zero_mul, Nat.one_mul, List.drop_zero] at e0 e1
    have ex' := congrArg Prod.fst ex
    simp only [List.map_cons, List.map_nil] at ex'
    obtain ⟨h0, h1, _⟩ : (.slice (a.map fun s => .lit (.int .i64 s)) s1) = x0.1 ∧ (.slice (b.map fun s => .lit (.int .i64 s)) s2) = x1.1 ∧ True := by
      have := DataW.agg.inj ex'
      simp only [List.cons.injEq, and_true] at this
      exact ⟨this.1, this.2, trivial⟩
    obtain ⟨y0, p0⟩ := x0
    obtain ⟨y1, p1⟩ := x1
    simp only at h0 h1
    subst h0 h1
    have k0 := ints_known he hf hk (by omega) e0
    have k1 := ints_known he hf hk (by omega) e1
    have hcs : cs.take 1 ++ (cs.drop 1).take 1 = cs := by
      have h2 : cs.length = 2 := by rw [hlen, hct]
      match cs, h2 with
      | [u, v], _ => rfl
    rw [← hcs]
    exact k0.append k1
end
theorem ce180 : Tryd.prog.cellsOf 180 = 2 := by kernel_rfl
theorem ce181 : Tryd.prog.cellsOf 181 = 6 := by kernel_rfl
theorem un180 : Tryd.prog.underlying 180 = some (.array 2 24) := by kernel_rfl
theorem un181 : Tryd.prog.underlying 181 = some (.array 3 180) := by kernel_rfl
theorem ops_known {H : Type} {enc : TypeId × Value → H} {W : World} {base fuel : Nat} {spare : Nat → Bool} {held : Bool} {cs : List Value} {ps : List MemPlace}
    (hx : DataW.trod enc Tryd.prog W base spare held fuel 181 cs = some (Rows.laid_disjoint_planner_operators, ps)) : HasC W Sh0 opsL cs ∧ cs.length = 6 := by
  obtain ⟨xs, m, _, ex, hlen, hl, hel⟩ := DataW.trod_array un181 hx
  rw [ce181] at hlen
  match xs, hl with
  | [x0, x1, x2], _ =>
    have e0 := hel 0 (by omega)
    have e1 := hel 1 (by omega)
    have e2 := hel 2 (by omega)
    simp only [ce180, Nat.zero_mul, Nat.one_mul, List.drop_zero] at e0 e1 e2
    have ex' := congrArg Prod.fst ex
    simp only [List.map_cons, List.map_nil] at ex'
    have h012 := DataW.agg.inj ex'
    simp only [List.cons.injEq, and_true] at h012
    obtain ⟨h0, h1, h2⟩ := h012
    obtain ⟨y0, p0⟩ := x0
    obtain ⟨y1, p1⟩ := x1
    obtain ⟨y2, p2⟩ := x2
    simp only at h0 h1 h2
    subst h0 h1 h2
    have k0 := two_known (a := [10]) (b := [10]) un180 ce180 ce24 Tryd.underlying24 Tryd.underlying3 ce3 (by decide) (by decide) e0
    have k1 := two_known (a := [15, 14]) (b := [13, 12]) un180 ce180 ce24 Tryd.underlying24 Tryd.underlying3 ce3 (by decide) (by decide) e1
    have k2 := two_known (a := [13, 12]) (b := [15, 14]) un180 ce180 ce24 Tryd.underlying24 Tryd.underlying3 ce3 (by decide) (by decide) e2
    have hcs : cs.take 2 ++ ((cs.drop 2).take 2 ++ (cs.drop 4).take 2) = cs := by
      have a1 : (cs.drop 4).take 2 = cs.drop 4 := List.take_of_length_le (by rw [List.length_drop]; omega)
      have a2 : (cs.drop 2).take 2 ++ cs.drop 4 = cs.drop 2 := by
        have := List.take_append_drop 2 (cs.drop 2)
        rw [List.drop_drop] at this; exact this
      rw [a1, a2, List.take_append_drop]
    refine ⟨?_, hlen⟩
    rw [← hcs]
    exact k0.append (k1.append k2)
/-- What the condition on the variable says. -/
theorem operators_of {W : World} (h : laidMetH Tryd.prog Rows.plannerKeysRow.laid W) : HasV W Sh0 (.ref opsL 0) (.pointer (some ⟨0, 0, none⟩)) := by
  have h : laidMet Tryd.prog Rows.plannerKeysRow.laid W := h
  obtain ⟨ps, ⟨g, t, cs, fuel, p, q, h1, h2, h3, h4, _, _⟩, _⟩ := h
  have eg : g = 0 := Option.some.inj (h1.symm.trans (show Tryd.prog.globalNamed _ = some 0 by kernel_rfl))
  subst eg
  have et : t = 181 := Option.some.inj (h2.symm.trans (show (Tryd.prog.globals[0]?).map (·.type) = some 181 by kernel_rfl))
  subst et
  obtain ⟨h5, hlen⟩ := ops_known h4
  have hc : ∀ i, W.cell? ⟨0, i, none⟩ = cs[i]? := World.var?_cell h1 h3
  have hsz : cs.size = 6 := by simpa using hlen
  obtain ⟨v, hv⟩ : ∃ v, cs[0]? = some v := ⟨_, Array.getElem?_eq_getElem (by omega)⟩
  have hlt : 0 < W.heap.size := cell_lt (v := v) (by rw [hc 0]; exact hv)
  refine HasV.ref _ 0 0 0 (fun j => (cs[j]?).getD v) h5.cell ⟨hlt, fun h => h, by simp [Sh0], fun id k mk h => by simp [Sh0] at h, ⟨_, Nat.le_refl _, trivial⟩⟩ (fun j c hj => ?_) (fun j c hj => ?_)
  · have hj6 : j < 6 := (List.getElem?_eq_some_iff.1 hj).1
    rw [Nat.zero_add, hc, Array.getElem?_eq_getElem (by omega)]; rfl
  · have hj6 : j < 6 := (List.getElem?_eq_some_iff.1 hj).1
    refine h5.at_ j c _ hj ?_
    rw [Array.getElem?_eq_getElem (by omega)]
    simp [Array.getElem?_eq_getElem (show j < cs.size by omega)]
theorem relG0 {W : World} (h : laidMetH Tryd.prog Rows.plannerKeysRow.laid W) : RelG (XG GK) W.heap.size W Sh0 where
  bbLen := rfl
  tbLen := rfl
  mu := fun _ h => h.elim
  bbLt := fun b h => by simp [Sh0] at h
  tbLt := fun id b k h => by simp [Sh0] at h
  tbInj := fun id id' b k k' h => by simp [Sh0] at h
  tbBb := fun id b k h => by simp [Sh0] at h
  tbMu := fun id b k h => by simp [Sh0] at h
  bbMu := fun b h => by simp [Sh0] at h
  okNew := fun _ _ _ => trivial
  okTok := fun _ _ _ _ _ => trivial
  base := Nat.le_refl _
  bbGe := fun b h => by simp [Sh0] at h
  tbGe := fun id b k h => by simp [Sh0] at h
  bbInj := fun id id' b cs cs' h => by simp [Sh0] at h
  boxes := fun id b cs h => by simp [Sh0] at h
  toks := fun id b k mk h => by simp [Sh0] at h
  glob := fun g cs hg => by
    have hg : GK g = some cs := hg
    unfold GK at hg
    split at hg
    · rename_i e
      have e : g = 0 := Nat.eq_of_beq_eq_true e
      subst e
      cases hg
      exact operators_of h
    · cases hg
/-- The law, called. -/
theorem law_runs {f : Nat} (hp : pfT TT f = true) (hf : f % 100000 = f) {ds : List D} (hs : stripL ds = ds) (h : callP (XG GK) TT f ds = some (.bool true)) {W : World} {args : Array Value}
    (hL : laidMetH Tryd.prog Rows.plannerKeysRow.laid W) (ha : HasL W Sh0 ds args.toList) :
    Calls Tryd.prog f args W fun e W' => e = .returned (.bool true) ∧ RowKit.Below W.heap.size W W' := by
  have h1 : callR (XG GK) TT f ⟨[], []⟩ ds = some (.bool true, ⟨[], []⟩) := by rw [callR_own hp, hs, h]
  have h2 := callD_of (good GK plainGK) h1 (Q := fun r _ => r = .bool true) rfl
  rw [hf] at h2
  refine (h2.2 _ W Sh0 args (relG0 hL) rfl ha).mono fun e W' ⟨v, S', r, he, hr, _, hx, hv⟩ => ?_
  subst hr
  cases hv
  refine ⟨he, ⟨hx.os, hx.tape, hx.output, hx.size, fun k hk => hx.keep k hk (by simp [Sh0]) (fun id k' => by simp [Sh0]) (.inl hk)⟩⟩
theorem cells_of_slice {P : Program} {W : World} {r : Reach} {b t e : Nat} {v : Value} (ht : P.underlying t = some (.slice e)) (h : Value.okWide P W r b t v) : v.cells = #[v] := by
  cases v <;> first | rfl | (simp [Value.okWide, ht, Cell.okWide, Cell.ok] at h)
theorem cells_of_int {P : Program} {W : World} {r : Reach} {b t : Nat} {k : IntKind} {v : Value} (ht : P.underlying t = some (.int k)) (h : Value.okWide P W r b t v) : v.cells = #[v] := by
  cases v <;> first | rfl | (simp [Value.okWide, ht, Cell.okWide, Cell.ok] at h)
theorem cells_of_str {P : Program} {W : World} {r : Reach} {b t : Nat} {v : Value} (ht : P.underlying t = some .string) (h : Value.okWide P W r b t v) : v.cells = #[v] := by
  cases v <;> first | rfl | (simp [Value.okWide, ht, Cell.okWide, Cell.ok] at h)
/-- An argument of one cell. -/
theorem arg_of {H : Type} {enc : TypeId × Value → H} {W : World} {t : Nat} {α : Type} {c : α → D} (h : ∀ N, Rd enc Tryd.prog W N t fun a => [c a]) {v : Value} (hv : v.cells = #[v]) {d : DataW H} {ps : List MemPlace}
    (hd : DataW.Trod enc Tryd.prog W 0 (fun _ => true) true t v d ps) (hw : ∀ m ∈ d.weights Tryd.prog t, m ≤ reachBytes) : ∃ a, HasV W Sh0 (c a) v := by
  obtain ⟨fuel, hd⟩ := hd
  obtain ⟨a, ha⟩ := h (fuel + 1) fuel _ _ (Nat.lt_succ_self _) hd hw
  rw [hv] at ha
  exact ⟨a, ha.at_ 0 _ _ rfl rfl⟩
theorem hasL_two {w : World} {S : Sh} {a b : D} {x y : Value} (h : HasV w S a x) (k : HasV w S b y) : HasL w S [a, b] (#[x, y] : Array Value).toList := by
  refine ⟨rfl, fun j c v hc hv => ?_⟩
  match j, hc, hv with
  | 0, hc, hv => simp at hc hv; subst hc; subst hv; exact h
  | 1, hc, hv => simp at hc hv; subst hc; subst hv; exact k
  | j + 2, hc, hv => simp at hc
theorem Tryd_own : ownKnob Tryd.prog.godebug = none := by kernel_rfl
theorem Tryd_laidOut : laidOutB Tryd.prog = true := by kernel_rfl
/-- A world in which the variable lies. -/
noncomputable def laidWorld (os : Os) : World :=
  let n := (World.settled Tryd.prog os).heap.size
  let w0 := World.holding Tryd.prog os ⟨#[.cells #[.int .i64 10] 3 (0, 0), .cells #[.int .i64 10] 3 (0, 0), .cells #[.int .i64 15, .int .i64 14] 3 (0, 0), .cells #[.int .i64 13, .int .i64 12] 3 (0, 0), .cells #[.int .i64 13, .int .i64 12] 3 (0, 0), .cells #[.int .i64 15, .int .i64 14] 3 (0, 0)], #[], []⟩
  { w0 with heap := w0.heap.modify 0 fun
      | .cells _ t frozen => .cells #[.slice (some ⟨n, 0, none⟩) 1 1, .slice (some ⟨n + 1, 0, none⟩) 1 1, .slice (some ⟨n + 2, 0, none⟩) 2 2, .slice (some ⟨n + 3, 0, none⟩) 2 2, .slice (some ⟨n + 4, 0, none⟩) 2 2, .slice (some ⟨n + 5, 0, none⟩) 2 2] t frozen
      | o => o }
theorem hasL_nil {w : World} {S : Sh} : HasL w S [] [] := ⟨rfl, fun j c v hc _ => by cases j <;> cases hc⟩
theorem hasL_cons {w : World} {S : Sh} {a : D} {x : Value} {cs : List D} {vs : List Value} (h : HasV w S a x) (k : HasL w S cs vs) : HasL w S (a :: cs) (x :: vs) := by
  refine ⟨by simp [k.len], fun j c v hc hv => ?_⟩
  match j, hc, hv with
  | 0, hc, hv => simp at hc hv; subst hc; subst hv; exact h
  | j + 1, hc, hv => exact k.at_ j c v (by simpa using hc) (by simpa using hv)
/-- An argument that is a struct. -/
theorem arg_agg {H : Type} {enc : TypeId × Value → H} {W : World} {t : Nat} {α : Type} {f : α → D} (hf : ∀ a, ∃ l, f a = .agg l) (h : ∀ N, Rd enc Tryd.prog W N t fun a => (f a).cells) {cs : Array Value} {d : DataW H} {ps : List MemPlace}
    (hd : DataW.Trod enc Tryd.prog W 0 (fun _ => true) true t (.agg cs) d ps) (hw : ∀ m ∈ d.weights Tryd.prog t, m ≤ reachBytes) : ∃ a, HasV W Sh0 (f a) (.agg cs) := by
  obtain ⟨fuel, hd⟩ := hd
  obtain ⟨a, ha⟩ := h (fuel + 1) fuel _ _ (Nat.lt_succ_self _) hd hw
  refine ⟨a, ?_⟩
  have ha : HasC W Sh0 (f a).cells cs.toList := ha
  obtain ⟨l, hl⟩ := hf a
  rw [hl] at ha ⊢
  have h2 : l.length = cs.toList.length := ha.len
  exact .agg l cs (by simpa using h2) ha.cell fun j c v hc hv => ha.at_ j c v hc (by simpa using hv)
theorem ce23 : Tryd.prog.cellsOf 23 = 1 := by kernel_rfl
theorem ce32 : Tryd.prog.cellsOf 32 = 11 := by kernel_rfl
theorem rd32 {H : Type} {enc : TypeId × Value → H} {W : World} (N : Nat) : Rd enc Tryd.prog W N 32 (fun c : Cas => (encCas c).cells) :=
  (rdt Tryd.underlying32 ce32 (fun N => rdf_cons rfl ce23 (rd23 N) (rdf_cons rfl ce24 (rd24 N) (rdf_cons rfl ce25 (rd25 N) (rdf_cons rfl ce30 (rd30 N) rdf_nil)))) N).map
    fun ⟨a, b, c, d, ()⟩ => ⟨⟨a, b, c, root d⟩, by
      have := root_eq d
      simp only [this, List.append_nil]; rfl⟩
end Go.Eng
