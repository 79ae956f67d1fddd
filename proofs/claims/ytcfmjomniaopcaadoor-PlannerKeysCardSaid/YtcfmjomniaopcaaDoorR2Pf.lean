/- A part of the proof: see the last text. -/
import Derived.Test.YtcfmjomniaopcaaDoorR2Pe
set_option linter.unusedSimpArgs false
set_option linter.unusedVariables false
/- What an expression is over; what a conjunct gives: the reference and the program say the same. -/
namespace Go.Eng
open Go Go.Proofs
open Nat (reduceAdd reduceMul reduceSub)
set_option maxRecDepth 20000
set_option maxHeartbeats 32000000
def stL (W : List Nat) : List D := (List.range (W.length + 1)).map fun i => .int .i64 (offW W i : Nat)
theorem stL_at {W : List Nat} {i : Nat} (h : i ≤ W.length) : (stL W)[i]? = some (.int .i64 (offW W i : Nat)) := by
  unfold stL; rw [List.getElem?_map, List.getElem?_range (by omega)]; rfl
/-- The query of a statement. -/
def qC (s : Sl Tbl) (b : Bnd) (tg : Option Nat) (W : List Nat) (c : Sl Ex) : List D := [sl 5 encTbl s, .int .i64 5, .str [], .nil, .nil, .nil, .nil, .nil, .nil, .nil, sl 2 encSrc b.src, .int .i64 b.w.a.1, .str b.w.s, .str b.w.t, .int .i64 b.w.b.1, .int .i64 b.w.c.1, .int .i64 b.w.d.1, .str b.w.u, sl 8 encEx b.w.args, .nil, .nil, .int .i64 0, .str [], .int .i64 0, sl 1 I b.tabs, sl 5 vr b.vars, .nil, .slice tg 1 (stL W), sl 8 encEx c]
/-- Numbers of sources. -/
def Knw (W : List Nat) (l : List I64) : Prop := ∀ x ∈ l, ∃ n : Nat, x.1 = n ∧ n < W.length
theorem own_hit {v : Int} : ∀ (W : List Nat) (i f k w : Nat), W[k]? = some w → ((f + offW W k : Nat) : Int) ≤ v → v < ((f + offW W k + w : Nat) : Int) → ownF v W i f = ((i + k : Nat) : Int)
  | [], _, _, k, w, h, _, _ => by simp at h
  | u :: r, i, f, 0, w, h, h1, h2 => by
    simp at h; subst h
    simp only [offW, List.take_zero, List.sum_nil, Nat.add_zero] at h1 h2
    rw [ownF, decide_eq_true h1, decide_eq_true h2]; rfl
  | u :: r, i, f, k + 1, w, h, h1, h2 => by
    have e : offW (u :: r) (k + 1) = u + offW r k := by simp [offW]
    rw [e] at h1 h2
    rw [ownF, decide_eq_false (show ¬ v < ((f + u : Nat) : Int) by omega), Bool.and_false, cond_false, own_hit r (i + 1) (f + u) k w (by simpa using h) (by omega) (by omega)]
    omega
theorem own_inv {v : Int} : ∀ (W : List Nat) (i f n : Nat), ownF v W i f = (n : Int) → ∃ k w, n = i + k ∧ W[k]? = some w ∧ ((f + offW W k : Nat) : Int) ≤ v ∧ v < ((f + offW W k + w : Nat) : Int)
  | [], _, _, n, h => by rw [ownF] at h; omega
  | u :: r, i, f, n, h => by
    rw [ownF] at h
    cases hb : decide ((f : Int) ≤ v) && decide (v < ((f + u : Nat) : Int)) with
    | true =>
      rw [hb, cond_true] at h
      simp only [Bool.and_eq_true, decide_eq_true_eq] at hb
      exact ⟨0, u, by omega, rfl, by simpa [offW] using hb.1, by simpa [offW] using hb.2⟩
    | false =>
      rw [hb, cond_false] at h
      obtain ⟨k, w, h1, h2, h3, h4⟩ := own_inv r (i + 1) (f + u) n h
      have e : offW (u :: r) (k + 1) = u + offW r k := by simp [offW]
      exact ⟨k + 1, w, by omega, by simpa using h2, by rw [e]; omega, by rw [e]; omega⟩
/-- Does a variable belong to a source? -/
def inSrc (W : List Nat) (v : Int) (n : Nat) : Bool := decide ((offW W n : Int) ≤ v) && decide (v < (offW W (n + 1) : Int))
theorem own_eq (W : List Nat) (v : Int) (n : Nat) (hn : n < W.length) : ((n : Int) == ownW W v) = inSrc W v n := by
  obtain ⟨w, hw⟩ : ∃ w, W[n]? = some w := ⟨_, List.getElem?_eq_getElem hn⟩
  unfold inSrc
  rw [offW_succ hw]
  cases hb : decide ((offW W n : Int) ≤ v) && decide (v < ((offW W n + w : Nat) : Int)) with
  | true =>
    simp only [Bool.and_eq_true, decide_eq_true_eq] at hb
    have := own_hit (v := v) W 0 0 n w hw (by omega) (by omega)
    unfold ownW
    rw [this]; simp
  | false =>
    rw [beq_eq_false_iff_ne]
    intro h
    obtain ⟨k, w', h1, h2, h3, h4⟩ := own_inv W 0 0 n h.symm
    obtain rfl : n = k := by omega
    rw [hw] at h2; cases h2
    rw [decide_eq_true (by omega), decide_eq_true (by omega)] at hb
    cases hb
def inKnw (W : List Nat) (v : Int) (l : List I64) : Bool := l.any fun x => inSrc W v x.1.toNat
theorem inKnw_eq {W : List Nat} {v : Int} : ∀ {l : List I64}, Knw W l → (l.any fun x => x.1 == ownW W v) = inKnw W v l
  | [], _ => rfl
  | x :: r, h => by
    obtain ⟨n, h1, h2⟩ := h x (List.mem_cons_self ..)
    unfold inKnw
    rw [List.any_cons, List.any_cons, h1, own_eq W v n h2, Int.toNat_natCast]
    exact congrArg _ (inKnw_eq fun y hy => h y (List.mem_cons_of_mem _ hy))
section
variable {G : Nat → Option (List D)} (s : Sl Tbl) (b : Bnd) (W : List Nat) (known : Sl I64)
theorem over144_col (h : WOK s.items b.tabs.items W) (hk : Knw W known.items) (r : ExR) (h2 : r.a.1 = 2) : callP (XG G) TT 144 [sl 5 encTbl s, encBnd b, r.enc, sl 1 I known] = some (.bool (inKnw W r.b.1 known.items)) := by
  refine callP_val T144 rfl (by simp only [go_sem]) ?_
  unfold Tryd.f144
  simp only [Option.getD_some]
  have c1 := own175 (G := G) s b W h r.b.1
  simp only [encBnd_eq] at c1
  have c2 := has112 (G := G) known (ownW W r.b.1)
  rw [inKnw_eq hk] at c2
  have e2 : (r.a.1 == 2) = true := by simp [h2]
  simp +decide only[go_sem,reduceAdd,reduceMul,reduceSub]
  refine gw (an e2 (an c1 c2)) ?_
  simp +decide only[go_sem,reduceAdd,reduceMul,reduceSub]
theorem over144_args (f : Ex → Bool) (r : ExR) (h2 : r.a.1 ≠ 2) (ih : ∀ x ∈ r.args.items, callP (XG G) TT 144 [sl 5 encTbl s, encBnd b, encEx x, sl 1 I known] = some (.bool (f x))) : callP (XG G) TT 144 [sl 5 encTbl s, encBnd b, r.enc, sl 1 I known] = some (.bool (r.args.items.all f)) := by
  refine callP_val T144 rfl (by simp only [go_sem]) ?_
  unfold Tryd.f144
  simp only [Option.getD_some]
  have e2 : (r.a.1 == 2) = false := by simp [h2]
  have hlt := r.args.lt
  simp +decide only[go_sem,reduceAdd,reduceMul,reduceSub,e2]
  refine gw e2 ?_
  refine wpI_loopC (T := Nat) [0, 3, 5, 6, 9] rfl (by simp +decide only[go_sem,reduceAdd,reduceMul,reduceSub,e2]; exact rfl) (fun k => [(9, .int .i64 (k : Int))]) (fun _ => []) (fun _ => ⟨[], []⟩) (fun k => k ≤ r.args.items.length ∧ (r.args.items.take k).all f = true) (fun k => r.args.items.length - k) 0 (by simp +decide only[go_sem,reduceAdd,reduceMul,reduceSub,e2] <;> rfl) (by simp) ?_
  rintro k ⟨hk, hQ⟩
  by_cases h1 : k < r.args.items.length
  · have l_x : ((k : Int) < ((r.args.items).length : Int)) = True := by simp; omega
    obtain ⟨x, g_x⟩ : ∃ a_, (r.args.items)[k]? = some a_ := ⟨_, List.getElem?_eq_getElem (by assumption)⟩
    have w_x := wrap_nat k (by omega)
    have c1 := ih x (List.mem_of_getElem? g_x)
    simp only [encBnd_eq] at c1
    cases c : (f x)
    · refine gw (an e2 (an l_x (an g_x (an w_x (an c c1))))) ?_
      simp +decide only[go_sem,reduceAdd,reduceMul,reduceSub,e2,l_x,g_x,w_x,c]
      rw [List.all_eq_false.2 ⟨x, List.mem_of_getElem? g_x, by simp [c]⟩]
    · refine gw (an e2 (an l_x (an g_x (an w_x (an c c1))))) ?_
      exact ⟨k + 1, by simp +decide only[go_sem,reduceAdd,reduceMul,reduceSub,e2,l_x,g_x,w_x,c] <;> rfl, ⟨by omega, by rw [List.take_add_one, g_x, List.all_append, hQ]; simp [c]⟩, by omega⟩
  · have l_e1 : ((k : Int) < ((r.args.items).length : Int)) = False := by simp; omega
    rw [List.take_of_length_le (by omega)] at hQ
    refine gw (an e2 l_e1) ?_
    simp +decide only[go_sem,reduceAdd,reduceMul,reduceSub,e2,l_e1]
    rw [hQ]
theorem over142_col (h : WOK s.items b.tabs.items W) (hk : Knw W known.items) (m : Mem) (id : Nat) (tg : Option Nat) (c : Sl Ex) (hm : m.boxes[id]? = some (qC s b tg W c)) (r : ExR) (h2 : r.a.1 = 2) : callR (XG G) TT 142 m [.ptr id 0, r.enc, sl 1 I known] = some (.bool (inKnw W r.b.1 known.items), m) := by
  refine callR_val T142 rfl ?_
  unfold Tryd.f142
  simp only [Option.getD_some]
  simp only [qC] at hm
  have e2 : (r.a.1 == 2) = true := by simp [h2]
  have hlt := known.lt
  simp +decide only[go_sem,reduceAdd,reduceMul,reduceSub,e2,hm]
  refine gw (an e2 hm) ?_
  refine wpI_loopC (T := Nat) [0, 4, 14, 15, 16] rfl (by simp +decide only[go_sem,reduceAdd,reduceMul,reduceSub,e2,hm]; exact rfl) (fun k => [(16, .int .i64 (k : Int))]) (fun _ => []) (fun _ => m) (fun k => k ≤ known.items.length ∧ inKnw W r.b.1 (known.items.take k) = false) (fun k => known.items.length - k) 0 (by simp +decide only[go_sem,reduceAdd,reduceMul,reduceSub,e2,hm] <;> rfl) (by exact ⟨Nat.zero_le _, rfl⟩) ?_
  rintro k ⟨hk1, hQ⟩
  by_cases h1 : k < known.items.length
  · have l_x : ((k : Int) < ((known.items).length : Int)) = True := by simp; omega
    obtain ⟨x, g_x⟩ : ∃ a_, (known.items)[k]? = some a_ := ⟨_, List.getElem?_eq_getElem (by assumption)⟩
    have w_x := wrap_nat k (by omega)
    obtain ⟨n, hn1, hn2⟩ := hk x (List.mem_of_getElem? g_x)
    have ht : inKnw W r.b.1 (known.items.take (k + 1)) = inSrc W r.b.1 n := by
      unfold inKnw at hQ ⊢
      rw [List.take_add_one, g_x, List.any_append, hQ]
      simp [hn1]
    have i1 := stL_at (W := W) (i := n) (by omega)
    have i2 := stL_at (W := W) (i := n + 1) (by omega)
    have wn := wrap_nat n (by have := h.len; have := h.few; omega)
    by_cases c1 : (offW W n : Int) ≤ r.b.1
    · by_cases c2 : r.b.1 < (offW W (n + 1) : Int)
      · refine gw (an e2 (an hm (an l_x (an g_x (an w_x (an hn1 (an i1 (an i2 (an wn (an c1 c2)))))))))) ?_
        simp +decide only[go_sem,reduceAdd,reduceMul,reduceSub,e2,hm,l_x,g_x,w_x,hn1,i1,i2,wn]
        have hi : inSrc W r.b.1 n = true := by unfold inSrc; rw [decide_eq_true c1, decide_eq_true c2]; rfl
        have : inKnw W r.b.1 known.items = true := List.any_eq_true.2 ⟨x, List.mem_of_getElem? g_x, by rw [hn1, Int.toNat_natCast]; exact hi⟩
        rw [this]
        simp
      · refine gw (an e2 (an hm (an l_x (an g_x (an w_x (an hn1 (an i1 (an i2 (an wn (an c1 c2)))))))))) ?_
        exact ⟨k + 1, by simp +decide only[go_sem,reduceAdd,reduceMul,reduceSub,e2,hm,l_x,g_x,w_x,hn1,i1,i2,wn] <;> rfl, ⟨by omega, by rw [ht]; unfold inSrc; rw [decide_eq_false c2, Bool.and_false]⟩, by omega⟩
    · refine gw (an e2 (an hm (an l_x (an g_x (an w_x (an hn1 (an i1 (an i2 (an wn c1))))))))) ?_
      exact ⟨k + 1, by simp +decide only[go_sem,reduceAdd,reduceMul,reduceSub,e2,hm,l_x,g_x,w_x,hn1,i1,i2,wn] <;> rfl, ⟨by omega, by rw [ht]; unfold inSrc; rw [decide_eq_false c1, Bool.false_and]⟩, by omega⟩
  · have l_e1 : ((k : Int) < ((known.items).length : Int)) = False := by simp; omega
    rw [List.take_of_length_le (by omega)] at hQ
    refine gw (an e2 (an hm l_e1)) ?_
    simp +decide only[go_sem,reduceAdd,reduceMul,reduceSub,e2,hm,l_e1]
    rw [hQ]
    simp
theorem over142_args (m : Mem) (id : Nat) (f : Ex → Bool) (r : ExR) (h2 : r.a.1 ≠ 2) (ih : ∀ x ∈ r.args.items, callR (XG G) TT 142 m [.ptr id 0, encEx x, sl 1 I known] = some (.bool (f x), m)) : callR (XG G) TT 142 m [.ptr id 0, r.enc, sl 1 I known] = some (.bool (r.args.items.all f), m) := by
  refine callR_val T142 rfl ?_
  unfold Tryd.f142
  simp only [Option.getD_some]
  have e2 : (r.a.1 == 2) = false := by simp [h2]
  have hlt := r.args.lt
  simp +decide only[go_sem,reduceAdd,reduceMul,reduceSub,e2]
  refine gw e2 ?_
  refine wpI_loopC (T := Nat) [0, 2, 45, 46, 47] rfl (by simp +decide only[go_sem,reduceAdd,reduceMul,reduceSub,e2]; exact rfl) (fun k => [(47, .int .i64 (k : Int))]) (fun _ => []) (fun _ => m) (fun k => k ≤ r.args.items.length ∧ (r.args.items.take k).all f = true) (fun k => r.args.items.length - k) 0 (by simp +decide only[go_sem,reduceAdd,reduceMul,reduceSub,e2] <;> rfl) (by simp) ?_
  rintro k ⟨hk, hQ⟩
  by_cases h1 : k < r.args.items.length
  · have l_x : ((k : Int) < ((r.args.items).length : Int)) = True := by simp; omega
    obtain ⟨x, g_x⟩ : ∃ a_, (r.args.items)[k]? = some a_ := ⟨_, List.getElem?_eq_getElem (by assumption)⟩
    have w_x := wrap_nat k (by omega)
    have c1 := ih x (List.mem_of_getElem? g_x)
    obtain ⟨rx, hx, _⟩ := x.open
    rw [hx] at c1
    simp only [ExR_eq] at c1
    cases c : (f x)
    · refine gw (an e2 (an l_x (an g_x (an w_x (an hx (an c1 c)))))) ?_
      simp +decide only[go_sem,reduceAdd,reduceMul,reduceSub,e2,l_x,g_x,w_x,hx,c1,c]
      rw [List.all_eq_false.2 ⟨x, List.mem_of_getElem? g_x, by simp [c]⟩]
      simp
    · refine gw (an e2 (an l_x (an g_x (an w_x (an hx (an c1 c)))))) ?_
      exact ⟨k + 1, by simp +decide only[go_sem,reduceAdd,reduceMul,reduceSub,e2,l_x,g_x,w_x,hx,c1,c] <;> rfl, ⟨by omega, by rw [List.take_add_one, g_x, List.all_append, hQ]; simp [c]⟩, by omega⟩
  · have l_e1 : ((k : Int) < ((r.args.items).length : Int)) = False := by simp; omega
    rw [List.take_of_length_le (by omega)] at hQ
    refine gw (an e2 l_e1) ?_
    simp +decide only[go_sem,reduceAdd,reduceMul,reduceSub,e2,l_e1]
    rw [hQ]
    simp
theorem choose_mem {α β : Type} [Inhabited β] {P : α → β → Prop} {l : List α} (h : ∀ x ∈ l, ∃ v, P x v) : ∃ f : α → β, ∀ x ∈ l, P x (f x) := by
  classical
  refine ⟨fun x => if hx : x ∈ l then (h x hx).choose else default, fun x hx => ?_⟩
  simp only [hx, dif_pos]
  exact (h x hx).choose_spec
end
section
variable {G : Nat → Option (List D)} {s : Sl Tbl} {b : Bnd} {W : List Nat} (h : WOK s.items b.tabs.items W) {known : Sl I64} (hk : Knw W known.items)
include h hk
/-- What is said of an expression does not depend on the memory. -/
theorem over_n : ∀ (N : Nat) (e : Ex), SizeOf.sizeOf (encEx e) < N → ∃ v, callP (XG G) TT 144 [sl 5 encTbl s, encBnd b, encEx e, sl 1 I known] = some (.bool v) ∧
    ∀ (m : Mem) (id : Nat) (tg : Option Nat) (c : Sl Ex), m.boxes[id]? = some (qC s b tg W c) → callR (XG G) TT 142 m [.ptr id 0, encEx e, sl 1 I known] = some (.bool v, m)
  | 0, e, hN => absurd hN (Nat.not_lt_zero _)
  | N + 1, e, hN => by
    obtain ⟨r, he, hs⟩ := e.open
    rw [he]
    by_cases h2 : r.a.1 = 2
    · exact ⟨_, over144_col s b W known h hk r h2, fun m id tg c hm => over142_col s b W known h hk m id tg c hm r h2⟩
    · obtain ⟨f, hf⟩ := choose_mem (l := r.args.items) fun x hx => over_n N x (by have := hs x hx; omega)
      exact ⟨_, over144_args s b known f r h2 fun x hx => (hf x hx).1, fun m id tg c hm => over142_args known m id f r h2 fun x hx => (hf x hx).2 m id tg c hm⟩
theorem over : ∃ f : Ex → Bool, ∀ e, callP (XG G) TT 144 [sl 5 encTbl s, encBnd b, encEx e, sl 1 I known] = some (.bool (f e)) ∧
    ∀ (m : Mem) (id : Nat) (tg : Option Nat) (c : Sl Ex), m.boxes[id]? = some (qC s b tg W c) → callR (XG G) TT 142 m [.ptr id 0, encEx e, sl 1 I known] = some (.bool (f e), m) :=
  Classical.axiomOfChoice fun e => over_n h hk _ e (Nat.lt_succ_self _)
end
end Go.Eng
