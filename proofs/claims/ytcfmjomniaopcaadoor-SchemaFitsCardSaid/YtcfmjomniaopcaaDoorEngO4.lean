/- Part of the engine that proves it: see the last text. -/
import Derived.Test.YtcfmjomniaopcaaDoorEngO3
import Derived.Laws.IdiomStrings
set_option linter.unusedSimpArgs false
set_option linter.unusedVariables false
/- Every operation that changes no memory: in one theorem. -/
namespace Go.Eng
open Go
section
variable {X : Ctx} {B N : Nat} {w : World} {S : Sh} {st : St} {lb : Nat → Nat} {a : Act}

theorem sliceSz_spec {P : Program} {t k : Nat} (h : sliceSz P t = some k) : ∃ e, sliceElem P t = some e ∧ szOf P e = some k := by
  unfold sliceSz at h
  cases he : sliceElem P t with
  | none => rw [he] at h; cases h
  | some e => rw [he] at h; exact ⟨e, rfl, h⟩

theorem hasRef {cs : List D} {o : Nat} {v : Value} (h : HasV w S (.ref cs o) v) : ∃ b base, v = .pointer (some ⟨b, base + o, none⟩) ∧ ∀ o', HasV w S (.ref cs o') (.pointer (some ⟨b, base + o', none⟩)) := by
  cases h with
  | ref _ _ b base vals hcl hvis hcell hv => exact ⟨b, base, rfl, fun o' => .ref cs o' b base vals hcl hvis hcell hv⟩

theorem hasPtr {id o : Nat} {v : Value} (h : HasV w S (.ptr id o) v) : ∃ b, v = .pointer (some ⟨b, o, none⟩) ∧ ∀ o', HasV w S (.ptr id o') (.pointer (some ⟨b, o', none⟩)) := by
  cases h with
  | ptr _ _ b hb => exact ⟨b, rfl, fun o' => .ptr id o' b hb⟩

theorem atI_some {α : Type} {l : List α} {n : Int} {d : α} (h : atI l n = some d) : ∃ i : Nat, n = i ∧ l[i]? = some d := by
  cases n with
  | ofNat i => exact ⟨i, rfl, h⟩
  | negSucc i => cases h

theorem lt_of_get {α : Type} {l : List α} {i : Nat} {d : α} (h : l[i]? = some d) : i < l.length := by
  rcases Nat.lt_or_ge i l.length with h' | h'
  · exact h'
  · rw [List.getElem?_eq_none h'] at h; cases h

theorem indexAt_run {t e k : Nat} (hs : sliceElem X.P t = some e) (hk : szOf X.P e = some k) {b off len cap i : Nat} (hi : i < len) (kk : IntKind) :
    (Instr.indexAt t (.slice (some ⟨b, off, none⟩) len cap) (.int kk i)).run X.P w = .ok (.pointer (some ⟨b, off + i * k, none⟩)) w := by
  unfold Instr.indexAt
  have hu := sliceElem_eq hs
  simp [asIntOf, run_underlying_of hu, hi, run_sizeOf hk, add_none]

theorem indexArr_run {t n e k : Nat} (hs : arrElem X.P t = some (n, e)) (hk : szOf X.P e = some k) {b off i : Nat} (hi : i < n) (kk : IntKind) :
    (Instr.indexAt t (.pointer (some ⟨b, off, none⟩)) (.int kk i)).run X.P w = .ok (.pointer (some ⟨b, off + i * k, none⟩)) w := by
  unfold Instr.indexAt
  have hu := arrElem_eq hs
  simp [asIntOf, run_underlying_of hu, hi, run_sizeOf hk, add_none, Instr.sureAddr]

theorem strEx (s : List UInt8) (l h : Nat) : (⟨s.toArray⟩ : ByteArray).extract l h = ⟨((s.take h).drop l).toArray⟩ := by
  apply ByteArray.ext
  rw [ByteArray.data_extract]
  apply Array.ext'
  simp [List.extract_eq_take_drop, List.drop_take]

theorem size_mk (s : List UInt8) : (⟨s.toArray⟩ : ByteArray).size = s.length := by simp [ByteArray.size]

theorem byteOf_spec {d : D} {b : UInt8} (h : byteOf d = some b) {v : Value} (hv : HasV w S d v) : ∃ n : Int, v = .int .u8 n ∧ b = UInt8.ofNat n.toNat := by
  unfold byteOf at h
  split at h
  · cases h; exact ⟨_, hasInt hv, rfl⟩
  · cases h
theorem bytesOf_len : ∀ {l : List D} {bs : List UInt8}, bytesOf l = some bs → bs.length = l.length
  | [], bs, h => by cases h; rfl
  | d :: r, bs, h => by
    unfold bytesOf at h
    split at h
    · rename_i b bs' h1 h2
      cases h; simp [bytesOf_len h2]
    · cases h
theorem bytesOf_get : ∀ {l : List D} {bs : List UInt8}, bytesOf l = some bs → ∀ (j : Nat) (d : D), l[j]? = some d → ∃ b, bs[j]? = some b ∧ byteOf d = some b
  | [], bs, _, j, d, hj => by simp at hj
  | d0 :: r, bs, h, j, d, hj => by
    unfold bytesOf at h
    split at h
    · rename_i b bs' h1 h2
      cases h
      cases j with
      | zero => simp at hj; subst hj; exact ⟨b, rfl, h1⟩
      | succ j => simp at hj ⊢; exact bytesOf_get h2 j d hj
    · cases h

theorem flat_bytes : ∀ {es : List D} {l : List UInt8}, bytesOf es = some l → flat es = es
  | [], _, _ => rfl
  | d :: r, l, h => by
    unfold bytesOf at h
    split at h
    · rename_i b bs h1 h2
      unfold byteOf at h1
      split at h1
      · have ih := flat_bytes h2
        simp only [flat, ih]
        rfl
      · cases h1
    · cases h

/-- string(b): the cells at an address are bytes. -/
theorem strRun {src dst e : Nat} (hs : X.P.underlying src = some (.slice e)) (he : X.P.underlying e = some (.int .u8)) (hd : X.P.underlying dst = some .string) {p : Addr} {cap : Nat} {cs : List D} {vals : Nat → Value}
    (hcell : ∀ j, j < cs.length → w.cell? (p.add j) = some (vals j)) (hv : ∀ (j : Nat) (c : D), cs[j]? = some c → HasV w S c (vals j)) {bs : List UInt8} (hb : bytesOf cs = some bs) :
    (convert src dst (.slice (some p) cs.length cap)).run X.P w = .ok (.string ⟨bs.toArray⟩) w := by
  have hn : ∀ j, j < cs.length → ∃ n : Int, vals j = .int .u8 n ∧ bs[j]? = some (UInt8.ofNat n.toNat) := fun j hj => by
    obtain ⟨b, h1, h2⟩ := bytesOf_get hb j cs[j] (List.getElem?_eq_getElem hj)
    obtain ⟨n, h3, h4⟩ := byteOf_spec h2 (hv j _ (List.getElem?_eq_getElem hj))
    exact ⟨n, h3, by rw [h1, h4]⟩
  let ns : List Int := (List.range cs.length).map fun j => match vals j with | .int _ n => n | _ => 0
  have hns : ∀ j (hj : j < cs.length), vals j = .int .u8 (ns[j]'(by simp [ns]; exact hj)) := fun j hj => by
    obtain ⟨n, h1, _⟩ := hn j hj
    simp [ns, h1]
  have hl := run_loadCells_list (P := X.P) w p (ns.map (Value.int .u8)) (fun j v hj => by
    have hj' : j < cs.length := by
      have := (List.getElem?_eq_some_iff.1 hj).1
      simpa [ns] using this
    rw [hcell j hj', hns j hj']
    rw [List.getElem?_map, List.getElem?_eq_getElem (by simp [ns]; exact hj')] at hj
    simpa using hj)
  have hnl : ns.length = cs.length := by simp [ns]
  simp only [List.length_map, hnl] at hl
  rw [run_convert_bytes_string w src dst e (some p) cs.length cap hs he hd, run_bytesToString w p cs.length cap _ hl]
  have key : ∀ (l : List Int) (r : ByteArray), l.foldl (fun r n => r.push (UInt8.ofNat n.toNat)) r = ⟨r.data ++ (l.map fun n => UInt8.ofNat n.toNat).toArray⟩ := by
    intro l
    induction l with
    | nil => intro r; simp
    | cons n l ih => intro r; simp only [List.foldl_cons, ih, List.map_cons]; simp [ByteArray.push]
  rw [key]
  have he0 : ByteArray.empty.data = #[] := rfl
  rw [he0]
  simp only [List.toArray_eq_iff, Array.empty_append] at *
  congr 3
  have : (ns.map fun n => UInt8.ofNat n.toNat) = bs := by
    apply List.ext_getElem?
    intro j
    rcases Nat.lt_or_ge j cs.length with hj | hj
    · obtain ⟨n, h1, h2⟩ := hn j hj
      rw [List.getElem?_map, List.getElem?_eq_getElem (by rw [hnl]; exact hj), h2]
      have := hns j hj
      rw [h1] at this
      cases this
      rfl
    · rw [List.getElem?_eq_none (by simp [hnl]; exact hj), List.getElem?_eq_none (by rw [bytesOf_len hb]; exact hj)]
  rw [this]

theorem bytesTy_spec {P : Program} {t : Nat} (h : bytesTy P t = true) : ∃ e, P.underlying t = some (.slice e) ∧ P.underlying e = some (.int .u8) := by
  unfold bytesTy at h
  split at h
  · rename_i e he
    split at h
    · rename_i hi; exact ⟨e, sliceElem_eq he, intTy_eq hi⟩
    · cases h
  · cases h

theorem strOf_ok (R : RelG X B w S) {m0 : Mem} (hm : Sub m0 S.m) {src dst : Nat} (hs : bytesTy X.P src = true) (hd : isStr X.P dst = true) {x d : D} {vx : Value} (hx : HasV w S x vx) (h : strOf m0 x = some d) :
    ∃ v, (convert src dst vx).run X.P w = .ok v w ∧ HasV w S d v := by
  obtain ⟨e, h1, h2⟩ := bytesTy_spec hs
  have h3 := isStr_eq hd
  cases x <;> first | (cases h; done) | skip
  case nil =>
    cases h
    rw [hasNil hx]
    exact ⟨_, by simp [convert, run_underlying_of h1, run_underlying_of h2, run_underlying_of h3, Conv.bytesToString]; rfl, .str []⟩
  case slice tg k es =>
    by_cases hk1 : k = 1
    · subst hk1
      simp only [strOf] at h
      split at h
      · rename_i l hl
        cases h
        refine ⟨_, ?_, .str l⟩
        cases hx with
        | slice0 _ _ p cap hh =>
          cases hl
          have := strRun (X := X) (w := w) (S := S) h1 h2 h3 (p := p) (cap := cap) (cs := []) (vals := fun _ => undef) (fun j hj => by simp at hj) (fun j c hj => by simp at hj) rfl
          simpa using this
        | slice _ _ _ b off cap vals hk hcap hbig hsz hcl hvis htag hcell hv =>
          have hfe : flat es = es := flat_bytes hl
          rw [hfe] at hcell hv
          exact strRun (X := X) (w := w) (S := S) h1 h2 h3 (p := ⟨b, off, none⟩) (cap := cap) (cs := es) (vals := vals) (fun j hj => by rw [add_none]; exact hcell j _ (List.getElem?_eq_getElem hj)) hv hl
      · cases h
    · unfold strOf at h
      split at h <;> first | (cases h; done) | skip
      all_goals rename_i he
      all_goals cases he
      all_goals exact absurd rfl hk1
  case rsl id off len k =>
    by_cases hk1 : k = 1
    · subst hk1
      simp only [strOf] at h
      split at h
      · rename_i cs hcs
        by_cases hb : off + len ≤ cs.length
        · simp only [hb, decide_true, cond_true] at h
          split at h
          · rename_i l hl
            cases h
            refine ⟨_, ?_, .str l⟩
            cases hx with
            | rsl _ _ _ _ b cap hk0 hlc hbb =>
              obtain ⟨vs, t, fr, hh, _, hsz, hc⟩ := R.boxes id b cs hbb (hm id cs hcs)
              have hlen : ((cs.drop off).take len).length = len := by simp; omega
              have := strRun (X := X) (w := w) (S := S) h1 h2 h3 (p := ⟨b, off, none⟩) (cap := cap) (cs := (cs.drop off).take len) (vals := fun j => vs.getD (off + j) undef) (fun j hj => by
                  rw [hlen] at hj
                  rw [add_none, cell_of_row w b _ vs t fr hh]
                  have : off + j < vs.size := by omega
                  simp [Array.getD, this]) (fun j c hj => by
                  have hj' := lt_of_get hj
                  rw [hlen] at hj'
                  rw [List.getElem?_take_of_lt hj', List.getElem?_drop] at hj
                  refine hc.at_ (off + j) c _ hj ?_
                  rw [List.getElem?_take_of_lt (by omega)]
                  have : off + j < vs.size := by omega
                  simp [Array.getD, this]) hl
              rw [hlen] at this
              exact this
          · cases h
        · simp [hb] at h
      · cases h
    · unfold strOf at h
      split at h <;> first | (cases h; done) | skip
      all_goals rename_i he
      all_goals cases he
      all_goals exact absurd rfl hk1

theorem evArgs' (R : RelG X B w S) (A : RelA N w S st lb a) : ∀ l : List Operand, HasL w S (l.map (ev X st)) (l.map a.eval)
  | [] => ⟨rfl, fun j c v hc => by simp at hc⟩
  | x :: r => by
    have ih := evArgs' R A r
    exact ⟨by simp, fun j c v hc hv => by
      cases j with
      | zero => simp at hc hv; subst hc; subst hv; exact ev_ok R A x
      | succ j => simp only [List.map_cons, List.getElem?_cons_succ] at hc hv; exact ih.at_ j c v hc hv⟩

theorem minL_run {P : Program} (lo : Bool) : ∀ (l : List D) (vl : List Value) (x : D) (vx : Value) (d : D), HasL w S l vl → HasV w S x vx → minL lo x l = some d →
    ∃ v, (vl.foldlM (if lo then Builtin.min2 else Builtin.max2) vx).run P w = .ok v w ∧ HasV w S d v
  | [], [], x, vx, d, _, hx, h => by
    unfold minL at h
    split at h
    · cases h; exact ⟨vx, by simp, hx⟩
    · cases h
  | [], _ :: _, _, _, _, hl, _, _ => by have := hl.len; simp at this
  | _ :: _, [], _, _, _, hl, _, _ => by have := hl.len; simp at this
  | y :: r, vy :: vr, x, vx, d, hl, hx, h => by
    unfold minL at h
    split at h
    · rename_i z hz
      have hy : HasV w S y vy := hl.at_ 0 y vy rfl rfl
      have ht : HasL w S r vr := ⟨by have := hl.len; simpa using this, fun j c v hc hv => hl.at_ (j + 1) c v (by simpa using hc) (by simpa using hv)⟩
      unfold min2 at hz
      split at hz
      · rename_i k n k' n'
        by_cases hk : k = k'
        · subst hk
          simp only [decide_true, cond_true] at hz
          cases hz
          rw [hasInt hx, hasInt hy]
          cases lo with
          | true =>
            obtain ⟨v, h1, h2⟩ := minL_run true r vr _ (.int k (if n' < n then n' else n)) d ht (.int _ _) h
            refine ⟨v, ?_, h2⟩
            simp only [List.foldlM_cons, Sem.run_bind]
            simpa [Builtin.min2] using h1
          | false =>
            obtain ⟨v, h1, h2⟩ := minL_run false r vr _ (.int k (if n' > n then n' else n)) d ht (.int _ _) h
            refine ⟨v, ?_, h2⟩
            simp only [List.foldlM_cons, Sem.run_bind]
            simpa [Builtin.max2] using h1
        · simp [hk] at hz
      · cases hz
    · cases h

theorem pure_ok (R : RelG X B w S) (A : RelA N w S st lb a) {m0 : Mem} (hm : Sub m0 S.m) {o : Oper} {d : D} (h : pureD X m0 st o.op = some d) :
    ∃ v, (execOp a.eval o).run X.P w = .ok (.value v) w ∧ HasV w S d v := by
  obtain ⟨dst, op, ty, pos, after, guard⟩ := o
  cases op <;> first | (cases h; done) | skip
  case move x => cases h; exact ⟨_, rfl, ev_ok R A x⟩
  case assign x => cases h; exact ⟨_, rfl, ev_ok R A x⟩
  case pick c x y =>
    simp only [pureD, pickD] at h
    split at h
    · rename_i b hb
      have hc := ev_ok R A c
      rw [hb] at hc
      have hx := ev_ok R A x
      have hy := ev_ok R A y
      cases h
      refine ⟨if b then a.eval x else a.eval y, ?_, ?_⟩
      · simp [execOp, hasBool hc, asBool]
      · cases b
        · exact hy
        · exact hx
    · cases h
  case load t p =>
    simp only [pureD] at h
    split at h
    · rename_i cs off hp
      obtain ⟨b, base, he, L⟩ := place_ok R A hm hp
      obtain ⟨v, hr, hv⟩ := takeD_ok L h
      exact ⟨v, by simp [execOp, Instr.loadAt, he, Instr.sureAddr, hr], hv⟩
    · cases h
  case nilCheck x =>
    simp only [pureD] at h
    have hx := ev_ok R A x
    split at h <;> first | (cases h; done) | skip
    · rename_i p q he; rw [he] at hx; cases h
      obtain ⟨b, hb, hv⟩ := hasPtr hx
      exact ⟨.pointer (some ⟨b, q, none⟩), by simp [execOp, hb], by exact hv _⟩
    · rename_i p q he; rw [he] at hx; cases h
      obtain ⟨b, base, hb, hv⟩ := hasRef hx
      exact ⟨.pointer (some ⟨b, base + q, none⟩), by simp [execOp, hb], by exact hv _⟩
    · rename_i he; rw [he] at hx; cases h
      cases hx' : a.eval x <;> rw [hx'] at hx <;> first | (cases hx; done) | skip
      cases hx with
      | func f cap vs hl hv => exact ⟨_, by simp [execOp, hx'], .func _ _ _ hl hv⟩
  case binOp op t x y u =>
    obtain ⟨v, hr, hv⟩ := binD_run h (ev_ok R A x) (ev_ok R A y) x y
    exact ⟨v, by simp only [execOp, Sem.run_bind]; simp only [Sem.run_bind] at hr; rw [hr]; rfl, hv⟩
  case unOp op t x =>
    simp only [pureD, unD] at h
    have hx := ev_ok R A x
    split at h <;> first | (cases h; done) | skip
    · rename_i he; rw [he] at hx; cases h
      exact ⟨_, by simp [execOp, hasBool hx, Op.unary], .bool _⟩
    · rename_i he; rw [he] at hx; cases h
      exact ⟨_, by simp [execOp, hasInt hx, Op.unary, Op.intArith], .int _ _⟩
  case convert s t x =>
    simp only [pureD] at h
    have hx := ev_ok R A x
    split at h
    · rename_i hb
      simp only [Bool.and_eq_true] at hb
      obtain ⟨v, h1, h2⟩ := strOf_ok R hm hb.1 hb.2 hx h
      exact ⟨v, by simp only [execOp, Sem.run_bind, h1]; rfl, h2⟩
    split at h <;> first | (cases h; done) | skip
    rename_i h1 h2 he; rw [he] at hx; cases h
    exact ⟨_, by simp [execOp, convert, run_underlying_of (intTy_eq h1), run_underlying_of (intTy_eq h2), hasInt hx, Conv.intToInt], .int _ _⟩
  case makeFunc f first cap =>
    cases f <;> first | (cases h; done) | skip
    rename_i f
    simp only [pureD] at h
    cases hf : first.isEmpty with
    | false => rw [hf] at h; cases h
    | true =>
      rw [hf] at h; cases h
      have : first = #[] := by simpa using hf
      subst this
      refine ⟨.func (.func f) #[] (cap.map a.eval), by simp [execOp, Instr.makeFunc], .func _ _ _ (by simp) (fun j c v hc hv => ?_)⟩
      simp only [List.getElem?_map, Option.map_eq_some_iff] at hc
      obtain ⟨x, hx, rfl⟩ := hc
      have hx' : cap[j]? = some x := by simpa using hx
      simp [hx'] at hv
      subst hv
      exact ev_ok R A x
  case field t x i =>
    simp only [pureD] at h
    split at h
    · rename_i off ft cs h1 h2 h3
      have hx := ev_ok R A x
      rw [h3] at hx
      obtain ⟨vs, he, hc⟩ := hasAgg hx
      obtain ⟨v, hr, hv⟩ := takeD_part hc h
      obtain ⟨fs, f, n, hu, hf, hn, hz, ho⟩ := fieldOff_spec h1
      have : ft = f.type := by unfold fieldTy at h2; rw [hu] at h2; simp [hf] at h2; exact h2.symm
      subst this
      exact ⟨v, by simp [execOp, Instr.field, run_underlying_of hu, hf, he, asAgg, ho, hr], hv⟩
    · cases h
  case build t parts =>
    simp only [pureD] at h
    split at h
    · rename_i z h1 h2
      split at h
      · rename_i out h3
        cases h
        obtain ⟨us, hr, hc⟩ := build_ok R A h1 h2 h3
        refine ⟨.agg us, by simp only [execOp, Sem.run_bind, hr]; rfl, .agg out us ?_ hc.cell (fun j c v hj hv => hc.at_ j c v hj (by simpa using hv))⟩
        have := hc.len; simpa using this
      · cases h
    · rename_i z h1 h2
      split at h
      · rename_i n e hae
        split at h
        · rename_i k hk
          split at h
          · rename_i out h3
            cases h
            obtain ⟨us, hr, hc⟩ := buildA_ok R A hae hk h2 h3
            refine ⟨.agg us, by simp only [execOp, Sem.run_bind, hr]; rfl, .agg out us ?_ hc.cell (fun j c v hj hv => hc.at_ j c v hj (by simpa using hv))⟩
            have := hc.len; simpa using this
          · cases h
        · cases h
      · cases h
    · cases h
  case fieldAddr t x i =>
    simp only [pureD] at h
    have hx := ev_ok R A x
    split at h <;> first | (cases h; done) | skip
    · rename_i h1 he; rw [he] at hx; cases h
      obtain ⟨b, base, hb, hv⟩ := hasRef hx
      exact ⟨_, by simp only [execOp, Sem.run_bind, hb, fieldAt_run h1]; rfl, by rw [Nat.add_assoc]; exact hv _⟩
    · rename_i h1 he; rw [he] at hx; cases h
      obtain ⟨b, hb, hv⟩ := hasPtr hx
      exact ⟨_, by simp only [execOp, Sem.run_bind, hb, fieldAt_run h1]; rfl, hv _⟩
  case indexAddr t x i =>
    simp only [pureD] at h
    have hx := ev_ok R A x
    have hi := ev_ok R A i
    split at h <;> first | (cases h; done) | skip
    · rename_i tg k es kk n he hei
      rw [he] at hx; rw [hei] at hi
      split at h
      · rename_i k' hk'
        by_cases hkk : k' = k
        · subst hkk
          simp only [decide_true, cond_true] at h
          split at h
          · rename_i d' hd'
            cases h
            obtain ⟨j, rfl, hj⟩ := atI_some hd'
            obtain ⟨b, off, cap, hv, hr⟩ := index_ok hx hj
            obtain ⟨e, hs, hsz⟩ := sliceSz_spec hk'
            exact ⟨_, by simp only [execOp, Sem.run_bind, hv, hasInt hi, indexAt_run hs hsz (lt_of_get hj)]; rfl, hr⟩
          · cases h
        · simp [hkk] at h
      · cases h
    · rename_i id off len k kk n he hei
      rw [he] at hx; rw [hei] at hi
      split at h
      · rename_i k' hk'
        cases hb : (decide (k' = k) && decide (0 ≤ n) && decide (n < (len : Int))) with
        | false => rw [hb] at h; cases h
        | true =>
          rw [hb] at h; cases h
          simp only [Bool.and_eq_true, decide_eq_true_eq] at hb
          obtain ⟨⟨rfl, h0⟩, h1⟩ := hb
          obtain ⟨j, rfl⟩ := toNat_of h0
          obtain ⟨e, hs, hsz⟩ := sliceSz_spec hk'
          generalize hv : a.eval x = vx at hx
          cases hx with
          | rsl _ _ _ _ b cap hk0 hl hbb =>
            exact ⟨_, by simp only [execOp, Sem.run_bind, hv, hasInt hi, indexAt_run hs hsz (show j < len by omega)]; rfl, .ptr id _ b hbb⟩
      · cases h
    · rename_i cs off kk n he hei
      rw [he] at hx; rw [hei] at hi
      split at h
      · rename_i len e ha
        split at h
        · rename_i k hk
          cases hb : (decide (0 ≤ n) && decide (n < (len : Int))) with
          | false => rw [hb] at h; cases h
          | true =>
            rw [hb] at h; cases h
            simp only [Bool.and_eq_true, decide_eq_true_eq] at hb
            obtain ⟨j, rfl⟩ := toNat_of hb.1
            obtain ⟨b, base, hv, hr⟩ := hasRef hx
            refine ⟨_, by simp only [execOp, Sem.run_bind, hv, hasInt hi, indexArr_run ha hk (show j < len by omega)]; rfl, ?_⟩
            rw [Nat.add_assoc]; exact hr _
        · cases h
      · cases h
  case index t x i =>
    simp only [pureD] at h
    have hx := ev_ok R A x
    have hi := ev_ok R A i
    split at h <;> first | (cases h; done) | skip
    · rename_i s kk n he hei
      rw [he] at hx; rw [hei] at hi
      cases hs : isStr X.P t with
      | false => rw [hs] at h; cases h
      | true =>
        rw [hs] at h
        simp only [cond_true] at h
        split at h
        · rename_i b hb
          cases h
          obtain ⟨j, rfl, hj⟩ := atI_some hb
          refine ⟨.int .u8 b.toNat, ?_, .int _ _⟩
          have hg : (⟨s.toArray⟩ : ByteArray)[j]? = some b := by
            have hlt := lt_of_get hj
            have hlt' : j < (⟨s.toArray⟩ : ByteArray).size := by simpa [ByteArray.size] using hlt
            rw [getElem?_pos _ j hlt']
            show some (s.toArray[j]) = _
            rw [List.getElem?_eq_getElem hlt] at hj
            simpa using hj
          simp [execOp, Instr.index, asIntOf, hasInt hi, hasStr hx, run_underlying_of (isStr_eq hs), hg]
        · cases h
    · rename_i cs kk n he hei
      rw [he] at hx; rw [hei] at hi
      split at h
      · rename_i len e ha
        split at h
        · rename_i k hk
          cases hb : (decide (0 ≤ n) && decide (n < (len : Int))) with
          | false => rw [hb] at h; cases h
          | true =>
            rw [hb] at h
            simp only [cond_true] at h
            simp only [Bool.and_eq_true, decide_eq_true_eq] at hb
            obtain ⟨j, rfl⟩ := toNat_of hb.1
            obtain ⟨vs, hv, hc⟩ := hasAgg hx
            obtain ⟨v, hr, hvv⟩ := takeD_part hc h
            refine ⟨v, ?_, hvv⟩
            have hjl : j < len := by omega
            simp only [Int.toNat_natCast] at hr
            simp [execOp, Instr.index, asIntOf, hasInt hi, hv, run_underlying_of (arrElem_eq ha), hjl, run_sizeOf hk, hr]
        · cases h
      · cases h
  case extract x i =>
    simp only [pureD] at h
    split at h
    · rename_i ds he
      have hx := ev_ok R A x
      rw [he] at hx
      obtain ⟨vs, hv, hl, hc⟩ := hasTuple hx
      have hlt := lt_of_get h
      have hlt' : i < vs.size := by omega
      exact ⟨vs[i], by simp [execOp, Instr.extract, hv, hlt'], hc i d _ h (by simp [hlt'])⟩
    · cases h
  case slice t x low high mx =>
    have hx := ev_ok R A x
    cases mx with
    | none =>
      simp only [pureD] at h
      split at h
      · rename_i s he
        rw [he] at hx
        split at h
        · rename_i l hh h1 h2 h3
          unfold sliceStr at h
          cases hb : (decide (0 ≤ l) && decide (l ≤ hh) && decide (hh ≤ (s.length : Int))) with
          | false => rw [hb] at h; cases h
          | true =>
            rw [hb] at h; cases h
            simp only [Bool.and_eq_true, decide_eq_true_eq] at hb
            obtain ⟨⟨b1, b2⟩, b3⟩ := hb
            obtain ⟨l, rfl⟩ := toNat_of b1
            obtain ⟨hh, rfl⟩ := toNat_of (Int.le_trans b1 b2)
            have e1 := optI_spec R A h2
            have e2 := optI_spec R A h3
            have hbd := sliceBounds_run (w := w) (P := X.P) false s.length s.length (low.map a.eval) (high.map a.eval) l hh (e1.imp (fun x => ⟨x.1, by omega⟩) id) (e2.imp (fun x => ⟨x.1, by omega⟩) id) (by omega) (by omega)
            refine ⟨.string ⟨((s.take hh).drop l).toArray⟩, ?_, .str _⟩
            simp only [execOp, Sem.run_bind, Instr.sliceAt, Instr.slice, run_underlying_of (isStr_eq h1), hasStr hx, Result.andThen_ok, Option.map_none, Option.isSome_none, Bool.false_eq_true, if_false, size_mk, hbd, Sem.run_pure, strEx]
        · cases h
      · rename_i tg k es he
        rw [he] at hx
        split at h
        · rename_i k' l hh h1 h2 h3
          by_cases hk : k' = k
          · subst hk
            simp only [decide_true, cond_true] at h
            unfold sliceSl at h
            cases hb : (decide (0 ≤ l) && decide (l ≤ hh) && decide (hh ≤ (es.length : Int))) with
            | false => rw [hb] at h; cases h
            | true =>
              rw [hb] at h; cases h
              simp only [Bool.and_eq_true, decide_eq_true_eq] at hb
              obtain ⟨⟨b1, b2⟩, b3⟩ := hb
              obtain ⟨l, rfl⟩ := toNat_of b1
              obtain ⟨hh, rfl⟩ := toNat_of (Int.le_trans b1 b2)
              obtain ⟨e, hs, hsz⟩ := sliceSz_spec h1
              have e1 := optI_spec R A h2
              have e2 := optI_spec R A h3
              obtain ⟨u, hr, hv⟩ := slice_ok hx hs hsz (e1.imp (fun x => ⟨x.1, by omega⟩) id) (e2.imp (fun x => ⟨x.1, by omega⟩) id) (show l ≤ hh by omega) (by omega)
              exact ⟨u, by simp only [execOp, Sem.run_bind, Option.map_none, hr]; rfl, hv⟩
          · simp [hk] at h
        · cases h
      · rename_i id off len k he
        rw [he] at hx
        split at h
        · rename_i k' l hh h1 h2 h3
          by_cases hk : k' = k
          · subst hk
            simp only [decide_true, cond_true] at h
            unfold sliceR at h
            cases hb : (decide (0 ≤ l) && decide (l ≤ hh) && decide (hh ≤ (len : Int))) with
            | false => rw [hb] at h; cases h
            | true =>
              rw [hb] at h
              simp only [cond_true] at h
              simp only [Bool.and_eq_true, decide_eq_true_eq] at hb
              obtain ⟨⟨b1, b2⟩, b3⟩ := hb
              obtain ⟨l, rfl⟩ := toNat_of b1
              obtain ⟨hh, rfl⟩ := toNat_of (Int.le_trans b1 b2)
              obtain ⟨e, hs, hsz⟩ := sliceSz_spec h1
              have e1 := optI_spec R A h2
              have e2 := optI_spec R A h3
              generalize hv : a.eval x = vx at hx
              cases hx with
              | rsl _ _ _ _ b cap hk0 hl hbb =>
                have hbd := sliceBounds_run (w := w) (P := X.P) true len cap (low.map a.eval) (high.map a.eval) l hh (e1.imp (fun x => ⟨x.1, by omega⟩) fun x => x) (e2.imp (fun x => ⟨x.1, by omega⟩) fun x => x) (by omega) (by omega)
                refine ⟨.slice (if cap = l then some ⟨b, off, none⟩ else some ⟨b, off + l * k', none⟩) (hh - l) (cap - l), ?_, ?_⟩
                · simp only [execOp, Sem.run_bind, Option.map_none, Instr.sliceAt, Instr.slice, hv, run_underlying_of (sliceElem_eq hs), Result.andThen_ok, hbd, run_sizeOf hsz, Sem.run_pure, Option.map_some, add_none]
                · by_cases hlh : (l : Int) = hh
                  · simp only [hlh, decide_true, cond_true] at h
                    cases h
                    have : hh - l = 0 := by omega
                    rw [this]
                    split <;> exact .slice0 none _ _ _ (.inl rfl)
                  · simp only [hlh, decide_false, cond_false] at h
                    cases h
                    rw [if_neg (by omega)]
                    simp only [Int.toNat_natCast]
                    exact .rsl id _ _ _ b _ hk0 ⟨by omega, by omega⟩ hbb
          · simp [hk] at h
        · cases h
      · rename_i he
        rw [he] at hx
        split at h
        · rename_i k' l hh h1 h2 h3
          cases hb : (decide (l = 0) && decide (hh = 0)) with
          | false => rw [hb] at h; cases h
          | true =>
            rw [hb] at h; cases h
            simp only [Bool.and_eq_true, decide_eq_true_eq] at hb
            obtain ⟨rfl, rfl⟩ := hb
            obtain ⟨e, hs, hsz⟩ := sliceSz_spec h1
            have hbd := sliceBounds_run (w := w) (P := X.P) true 0 0 (low.map a.eval) (high.map a.eval) 0 0 ((optI_spec R A h2).imp (fun x => ⟨x.1, rfl⟩) id) ((optI_spec R A h3).imp (fun x => ⟨x.1, rfl⟩) id) (Nat.le_refl _) (Nat.le_refl _)
            refine ⟨.slice none 0 0, ?_, .nil⟩
            simp [execOp, Instr.sliceAt, Instr.slice, run_underlying_of (sliceElem_eq hs), hasNil hx, hbd, run_sizeOf hsz]
        · cases h
      · cases h
    | some m =>
      cases low with
      | some l => simp [pureD] at h
      | none =>
        cases high with
        | none => simp [pureD] at h
        | some hi =>
          have zero : ∀ y : Operand, isZero (ev X st y) = true → ∃ k, a.eval y = .int k 0 := fun y hy => by
            have hy' := ev_ok R A y
            cases e : ev X st y <;> rw [e] at hy <;> first | (cases hy; done) | skip
            rw [e] at hy'
            simp [isZero] at hy
            subst hy
            exact ⟨_, hasInt hy'⟩
          simp only [pureD] at h
          split at h
          · rename_i tg k es he
            rw [he] at hx
            split at h
            · rename_i k' hk'
              cases hb : (isZero (ev X st hi) && isZero (ev X st m)) with
              | false => rw [hb] at h; cases h
              | true =>
                rw [hb] at h; cases h
                simp only [Bool.and_eq_true] at hb
                obtain ⟨k1, e1⟩ := zero hi hb.1
                obtain ⟨k2, e2⟩ := zero m hb.2
                obtain ⟨e, hs, hsz⟩ := sliceSz_spec hk'
                obtain ⟨p, cap, hv⟩ := hasSlice hx
                refine ⟨.slice (some p) 0 0, ?_, .slice0 (some 0) _ p 0 (.inr ⟨rfl, rfl⟩)⟩
                simp [execOp, Instr.sliceAt, Instr.slice, Instr.sliceBounds, Instr.sliceBound, asIntOf, run_underlying_of (sliceElem_eq hs), hv, e1, e2, run_sizeOf hsz]
            · cases h
          · rename_i he
            rw [he] at hx
            split at h
            · rename_i k' hk'
              cases hb : (isZero (ev X st hi) && isZero (ev X st m)) with
              | false => rw [hb] at h; cases h
              | true =>
                rw [hb] at h; cases h
                simp only [Bool.and_eq_true] at hb
                obtain ⟨k1, e1⟩ := zero hi hb.1
                obtain ⟨k2, e2⟩ := zero m hb.2
                obtain ⟨e, hs, hsz⟩ := sliceSz_spec hk'
                obtain ⟨p, n, cap, hv⟩ := hasRsl hx
                refine ⟨.slice (some p) 0 0, ?_, .slice0 (some 0) _ p 0 (.inr ⟨rfl, rfl⟩)⟩
                simp [execOp, Instr.sliceAt, Instr.slice, Instr.sliceBounds, Instr.sliceBound, asIntOf, run_underlying_of (sliceElem_eq hs), hv, e1, e2, run_sizeOf hsz]
            · cases h
          · rename_i he
            rw [he] at hx
            split at h
            · rename_i k' hk'
              cases hb : (isZero (ev X st hi) && isZero (ev X st m)) with
              | false => rw [hb] at h; cases h
              | true =>
                rw [hb] at h; cases h
                simp only [Bool.and_eq_true] at hb
                obtain ⟨k1, e1⟩ := zero hi hb.1
                obtain ⟨k2, e2⟩ := zero m hb.2
                obtain ⟨e, hs, hsz⟩ := sliceSz_spec hk'
                refine ⟨.slice none 0 0, ?_, .nil⟩
                simp [execOp, Instr.sliceAt, Instr.slice, Instr.sliceBounds, Instr.sliceBound, asIntOf, run_underlying_of (sliceElem_eq hs), hasNil hx, e1, e2, run_sizeOf hsz]
            · cases h
          · cases h
  case call c =>
    obtain ⟨callee, args, argTypes⟩ := c
    cases callee <;> first | (cases h; done) | skip
    rename_i b
    cases b <;> first | (cases h; done) | skip
    case max =>
      simp only [pureD] at h
      split at h
      · rename_i x r hx
        obtain ⟨v, h1, h2⟩ := minL_run (P := X.P) false (r.map (ev X st)) (r.map a.eval) (ev X st x) _ _ (evArgs' R A r) (ev_ok R A x) h
        refine ⟨v, ?_, h2⟩
        have hargs : args = (x :: r).toArray := by apply Array.ext'; simpa using hx
        subst hargs
        simp only [Bool.false_eq_true, if_false] at h1
        simp [execOp, resolve, invoke, builtin, Builtin.max_, h1]
      · cases h
    case min =>
      simp only [pureD] at h
      split at h
      · rename_i x r hx
        obtain ⟨v, h1, h2⟩ := minL_run (P := X.P) true (r.map (ev X st)) (r.map a.eval) (ev X st x) _ _ (evArgs' R A r) (ev_ok R A x) h
        refine ⟨v, ?_, h2⟩
        have hargs : args = (x :: r).toArray := by apply Array.ext'; simpa using hx
        subst hargs
        simp only [if_true] at h1
        simp [execOp, resolve, invoke, builtin, Builtin.min_, h1]
      · cases h
    simp only [pureD] at h
    split at h
    · rename_i x t hx ht
      split at h
      · rename_i n hn
        cases h
        have hargs : args = #[x] := by apply Array.ext'; simpa using hx
        have htys : argTypes = #[t] := by apply Array.ext'; simpa using ht
        subst hargs; subst htys
        have hv := ev_ok R A x
        refine ⟨.int .i64 n, ?_, .int _ _⟩
        unfold lenT at hn
        split at hn <;> first | (cases hn; done) | skip
        · rename_i he; rw [he] at hv
          split at hn
          · rename_i e hs
            cases hn
            obtain ⟨p, cap, hp⟩ := hasSlice hv
            simp [execOp, resolve, invoke, builtin, Builtin.len_, run_underlying_of (sliceElem_eq hs), hp, goInt]
          · cases hn
        · rename_i he; rw [he] at hv
          split at hn
          · rename_i e hs
            cases hn
            generalize hp : a.eval x = vx at hv
            cases hv with
            | rsl _ _ _ _ b cap hk0 hl hbb =>
              simp [execOp, resolve, invoke, builtin, Builtin.len_, run_underlying_of (sliceElem_eq hs), hp, goInt]
          · cases hn
        · rename_i he; rw [he] at hv
          split at hn
          · rename_i e hs
            cases hn
            simp [execOp, resolve, invoke, builtin, Builtin.len_, run_underlying_of (sliceElem_eq hs), hasNil hv, goInt]
          · cases hn
        · rename_i he; rw [he] at hv
          split at hn
          · rename_i hs
            cases hn
            simp [execOp, resolve, invoke, builtin, Builtin.len_, run_underlying_of (isStr_eq hs), hasStr hv, goInt, size_mk]
          · cases hn
      · cases h
    · cases h
end
end Go.Eng
