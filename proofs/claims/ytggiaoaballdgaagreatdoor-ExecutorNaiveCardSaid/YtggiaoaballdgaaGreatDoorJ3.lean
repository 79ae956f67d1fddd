/- Part of the engine that proves it: see the last text. -/
import Derived.Attr
import Derived.Test.YtggiaoaballdgaaGreatDoorEngG
import Derived.Test.YtggiaoaballdgaaGreatDoorJ0
set_option linter.unusedSimpArgs false
set_option linter.unusedVariables false
namespace Go.Eng
open Go
noncomputable def lim {α:Type} (f:Nat->Option α):Option α:=by
 classical exact if h:∃n,(f n).isSome=true then f h.choose else none
theorem yJz {α:Type} {f:Nat->Option α} {x:α} (h:lim f=some x):∃n,f n=some x:=by
 classical
 unfold lim at h
 split at h
 ·exact⟨_,h⟩
 ·cases h
theorem yZw {α:Type} {f:Nat->Option α} {x:α} {n:Nat} (hm:∀n k y,f n=some y->n<=k->f k=some y) (h:f n=some x):lim f=some x:=by
 classical
 have he:∃n,(f n).isSome=true:=⟨n,by rw[h];rfl⟩
 unfold lim
 rw[dif_pos he]
 obtain⟨y,hy⟩:=Option.isSome_iff_exists.1 he.choose_spec
 have h1:=hm _ (max n he.choose) y hy (Nat.le_max_right _ _)
 have h2:=hm _ (max n he.choose) x h (Nat.le_max_left _ _)
 rw[h1] at h2
 rw[hy];exact h2
section
variable {X:Ctx} {F:Fi} {R:Type} {call call':Call} {pf:Nat->Bool} {K K':St->Option R} {st:St} {x:R}
theorem yAb {o:Oper} (hK:∀st',K st'=some x->K' st'=some x) (h:zGr X o K st=some x):zGr X o K' st=some x:=by
 unfold zGr at h ⊢
 split at h
 ·exact hK _ h
 ·cases h
theorem zVd {m0:Mem} {o:Oper} (hK:∀st',K st'=some x->K' st'=some x) (h:zAt X m0 o K st=some x):zAt X m0 o K' st=some x:=by
 unfold zAt at h ⊢
 split at h
 ·exact hK _ h
 ·cases h
theorem zNt {o:Oper} (hK:∀st',K st'=some x->K' st'=some x) (h:zGt X F o K st=some x):zGt X F o K' st=some x:=by
 unfold zGt at h ⊢
 split at h
 ·exact hK _ h
 ·cases h
theorem zRh {o:Oper} (hK:∀st',K st'=some x->K' st'=some x) (h:yHt X o K st=some x):yHt X o K' st=some x:=by
 unfold yHt at h ⊢
 split at h
 ·exact hK _ h
 ·cases h
theorem zVo {o:Oper} {cs:List D} (hK:∀st',K st'=some x->K' st'=some x) (h:zEd F o cs K st=some x):zEd F o cs K' st=some x:=by
 unfold zEd at h ⊢
 split at h
 ·split at h
  ·exact hK _ h
  ·exact hK _ h
 ·cases h
theorem zTb {o:Oper} {cs:List D} (hK:∀st',K st'=some x->K' st'=some x) (h:zAo F o cs K st=some x):zAo F o cs K' st=some x:=by
 unfold zAo at h ⊢
 split at h
 ·split at h
  ·exact hK _ h
  ·split at h
   ·exact hK _ h
   ·cases h
 ·cases h
theorem zVa {t:Nat} {p v:Operand} (hK:∀st',K st'=some x->K' st'=some x) (h:zFa X t p v K st=some x):zFa X t p v K' st=some x:=by
 unfold zFa at h ⊢
 repeat' split at h
 all_goals first|(cases h;done)|exact hK _ h
theorem zSr {m0:Mem} {t:Nat} {p v:Operand} (hK:∀st',K st'=some x->K' st'=some x) (h:zBj X F m0 t p v K st=some x):zBj X F m0 t p v K' st=some x:=by
 unfold zBj at h ⊢
 repeat' split at h
 all_goals first|(cases h;done)|exact hK _ h
theorem yAt (hc:∀g m ds r,call g m ds=some r->call' g m ds=some r) {g:Nat} {ds:List D} {dst:Option Nat}
  (hK:∀st',K st'=some x->K' st'=some x) (h:zOj call g ds dst K st=some x):zOj call' g ds dst K' st=some x:=by
 unfold zOj at h ⊢
 split at h
 ·rename_i r m he;rw[hc _ _ _ _ he];exact hK _ h
 ·cases h
theorem zEv (hc:∀g m ds r,call g m ds=some r->call' g m ds=some r) {m0:Mem} {b:Bool} {g:Nat} {ds:List D} {dst:Option Nat}
  (hK:∀st',K st'=some x->K' st'=some x) (h:zFf call m0 b g ds dst K st=some x):zFf call' m0 b g ds dst K' st=some x:=by
 unfold zFf at h ⊢
 split at h
 ·rename_i r m he
  rw[hc _ _ _ _ he]
  simp only
  split at h
  ·rename_i hs;exact hK _ h
  ·cases h
 ·cases h
theorem zNj (hc:∀g m ds r,call g m ds=some r->call' g m ds=some r) {o:Oper}
  (hK:∀st',K st'=some x->K' st'=some x) (h:zDx X F call o K st=some x):zDx X F call' o K' st=some x:=by
 unfold zDx at h
 repeat' split at h
 all_goals first|(cases h;done)|skip
 all_goals unfold zDx
 all_goals first
  |(simp only[*];done)
  |(simp only[*];first|exact hK _ h|exact yAb hK h|exact zNt hK h|exact zRh hK h|exact zVo hK h|exact zVa hK h|exact yAt hc hK h)
theorem zLp (hc:∀g m ds r,call g m ds=some r->call' g m ds=some r) {m0:Mem} {o:Oper}
  (hK:∀st',K st'=some x->K' st'=some x) (h:vR X F pf call m0 o K st=some x):vR X F pf call' m0 o K' st=some x:=by
 unfold vR at h
 split at h
 case h_4=>
  rename_i hop
  unfold vR
  rw[hop]
  simp only
  split at h
  ·split at h
   ·rename_i d m he;rw[hc _ _ _ _ he];exact hK _ h
   ·cases h
  ·split at h
   ·split at h
    ·exact zEv hc hK h
    ·cases h
   ·exact zEv hc hK h
   ·cases h
 all_goals repeat' split at h
 all_goals first|(cases h;done)|skip
 all_goals unfold vR
 all_goals first
  |(simp only[*];done)
  |(simp only[*];first|exact hK _ h|exact zVd hK h|exact zNt hK h|exact zRh hK h|exact zTb hK h|exact zSr hK h|exact zEv hc hK h)
theorem yJv (hc:∀g m ds r,call g m ds=some r->call' g m ds=some r) {all:List Oper} {o:Oper}
  (hK:∀st',K st'=some x->K' st'=some x) (h:opM X F call all o K st=some x):opM X F call' all o K' st=some x:=by
 unfold opM at h ⊢
 split at h
 ·exact zNj hc hK h
 ·split at h
  ·split at h
   ·exact zNj hc hK h
   ·exact hK _ h
  ·exact hK _ h
  ·cases h
theorem yFb (hc:∀g m ds r,call g m ds=some r->call' g m ds=some r) {m0:Mem} {all:List Oper} {o:Oper}
  (hK:∀st',K st'=some x->K' st'=some x) (h:yBc X F pf call m0 all o K st=some x):yBc X F pf call' m0 all o K' st=some x:=by
 unfold yBc at h ⊢
 split at h
 ·exact zLp hc hK h
 ·split at h
  ·split at h
   ·exact zLp hc hK h
   ·exact hK _ h
  ·exact hK _ h
  ·cases h
theorem zRm (hc:∀g m ds r,call g m ds=some r->call' g m ds=some r) {all:List Oper} (hK:∀st',K st'=some x->K' st'=some x) :
  ∀(l:List Oper) (st:St),yPb X F call all l K st=some x->yPb X F call' all l K' st=some x
 |[],_,h=>hK _ h
 |_::r,_,h=>yJv hc (zRm hc hK r) h
theorem zNr (hc:∀g m ds r,call g m ds=some r->call' g m ds=some r) {m0:Mem} {all:List Oper} (hK:∀st',K st'=some x->K' st'=some x) :
  ∀(l:List Oper) (st:St),zTj X F pf call m0 all l K st=some x->zTj X F pf call' m0 all l K' st=some x
 |[],_,h=>hK _ h
 |_::r,_,h=>yFb hc (zNr hc hK r) h
end
section
variable {X:Ctx} {T:Nat->Option Fx}
theorem zEx {ex ex':Fi->Code->St->Option (Exit×St)} (h:∀F c st o,ex F c st=some o->ex' F c st=some o) {fx:Fx} {m:Mem} {ds:List D} {r:D×Mem}
  (hc:zCb X ex fx m ds=some r):zCb X ex' fx m ds=some r:=by
 unfold zCb at hc ⊢
 simp only[wR,uA] at hc ⊢
 split at hc
 ·rename_i o ho;rw[h _ _ _ _ ho];exact hc
 ·cases hc
theorem zSs {ex ex':Fi->Code->St->Option (Exit×St)} (h:∀F c st o,ex F c st=some o->ex' F c st=some o) {id:Nat} {m:Mem} {ds:List D} {r:D×Mem}
  (hc:zGw ex id m ds=some r):zGw ex' id m ds=some r:=by
 unfold zGw at hc ⊢
 simp only[wR,uA] at hc ⊢
 split at hc
 ·split at hc
  ·split at hc
   ·rename_i st he
    simp only[h _ _ _ _ he]
    split at hc
    ·rename_i m1 hm
     cases hx:ex _ _ (st.setM m1) with
     |none=>rw[hx] at hc;cases hc
     |some o=>rw[hx] at hc;simp only[h _ _ _ _ hx];exact hc
    ·cases hc
   ·cases hc
  ·cases hc
 ·cases hc
theorem yAj {ex ex':Fi->Code->St->Option (Exit×St)} (h:∀F c st o,ex F c st=some o->ex' F c st=some o) (g:Nat) (m:Mem) (ds:List D) (r:D×Mem)
  (hc:zJh X T ex g m ds=some r):zJh X T ex' g m ds=some r:=by
 unfold zJh at hc ⊢
 split at hc
 ·rename_i fx hfx
  split at hc
  ·rename_i hle
   split at hc
   ·split at hc
    ·rename_i r0 m0 he;simp only[zEx h he];exact hc
    ·cases hc
   ·split at hc
    ·split at hc
     ·rename_i r0 m0 he;simp only[zEx h he];exact hc
     ·cases hc
    ·exact zEx h hc
  ·cases hc
 ·exact hc
theorem zMc {ex ex':Fi->Code->St->Option (Exit×St)} (h:∀F c st o,ex F c st=some o->ex' F c st=some o) (g:Nat) (m:Mem) (ds:List D) (r:D×Mem)
  (hc:zCa X T ex g m ds=some r):zCa X T ex' g m ds=some r:=by
 unfold zCa at hc ⊢
 split at hc
 ·exact zSs h hc
 ·exact yAj h _ _ _ _ hc
theorem yFw :∀(n:Nat) (F:Fi) (c:Code) (st:St) (o:Exit×St),xF X T n F c st=some o->xF X T (n+1) F c st=some o:=by
 intro n
 induction n with
 |zero=>intro F c st o h;simp[xF] at h
 |succ n ih=>
 intro F c st o h
 have hcall:=zMc (X:=X) (T:=T) ih
 cases c with
 |skip=>simpa only[xF] using h
 | region id ops dr=>
  cases dr with
  |false=>rw[xF] at h ⊢;simp only[wN] at h ⊢;exact zRm hcall (λ_ h=>h) _ _ h
  |true=>
   rw[xF] at h ⊢
   simp only[wN] at h ⊢
   split at h
   ·exact zNr hcall (λ_ h=>h) _ _ h
   ·cases h
 | seq a b=>
  rw[xF] at h ⊢
  simp only[zBh] at h ⊢
  split at h
  ·rename_i s1 h1;rw[ih _ _ _ _ h1];exact ih _ _ _ _ h
  ·rename_i hne
   rw[ih _ _ _ _ h]
   obtain⟨e,s⟩:=o
   cases e<;>first|rfl|exact(hne _ h).elim
 | cond o' a b=>
  rw[xF] at h ⊢
  split at h
  ·rename_i t ht
   cases t with
   |true=>exact ih _ _ _ _ h
   |false=>exact ih _ _ _ _ h
  ·cases h
 | block id a=>
  rw[xF] at h ⊢
  split at h
  ·rename_i id' s1 h1;rw[ih _ _ _ _ h1];exact h
  ·rename_i hne
   rw[ih _ _ _ _ h]
   obtain⟨e,s⟩:=o
   cases e<;>first|rfl|exact(hne _ _ h).elim
 |exit id=>simpa only[xF] using h
 |ret=>simpa only[xF] using h
 | loop a=>
  rw[xF] at h ⊢
  simp only[zBh,wN] at h ⊢
  split at h
  ·rename_i s1 h1;rw[ih _ _ _ _ h1];exact ih _ _ _ _ h
  ·rename_i hne
   rw[ih _ _ _ _ h]
   obtain⟨e,s⟩:=o
   cases e<;>first|rfl|exact(hne _ h).elim
 | rangeFunc g ps a b=>
  rw[xF] at h ⊢
  split at h
  ·rename_i f cap hg
   split at h
   ·rename_i hf
    cases hx:zCa X T (xF X T n) f { st.m with boxes:=st.m.boxes++[[yHv F st ps a b]] } (.yld st.m.boxes.length::cap) with
    |none=>rw[hx] at h;cases h
    |some o=>rw[hcall _ _ _ _ hx];rw[hx] at h;exact h
   ·cases h
  ·cases h
 |scope _=>simp[xF] at h
 |label _=>simp[xF] at h
 |goto _=>simp[xF] at h
 |refuse _=>simp[xF] at h
theorem zEn {n k:Nat} (hk:n<=k) (F:Fi) (c:Code) (st:St) (o:Exit×St) (h:xF X T n F c st=some o):xF X T k F c st=some o:=by
 induction hk with
 |refl=>exact h
 |step _ ih=>exact yFw _ _ _ _ _ ih
variable (X T) in
noncomputable def xH (n:Nat):Call:=zCa X T (xF X T n)
theorem zLi {n k:Nat} (hk:n<=k) (g:Nat) (m:Mem) (ds:List D) (r:D×Mem) (h:xH X T n g m ds=some r):xH X T k g m ds=some r:=
 zMc (λF c st o=>zEn hk F c st o) g m ds r h
variable (X T) in
noncomputable def zG (g:Nat) (m:Mem) (ds:List D):Option (D×Mem):=lim λn=>xH X T n g m ds
theorem uT {g:Nat} {m:Mem} {ds:List D} {r:D×Mem} (h:zG X T g m ds=some r):∃n,∀k,n<=k->xH X T k g m ds=some r:=by
 obtain⟨n,hn⟩:=yJz h
 exact⟨n,λk hk=>zLi hk _ _ _ _ hn⟩
theorem wU {n:Nat} {g:Nat} {m:Mem} {ds:List D} {r:D×Mem} (h:xH X T n g m ds=some r):zG X T g m ds=some r:=
 yZw (f:=λn=>xH X T n g m ds) (λ_ _ _ h1 h2=>zLi h2 _ _ _ _ h1) h
end
mutual
theorem yFx :∀(a b:D),eqV a b=true->a=b
  |.int k n,b,h=>by cases b<;>simp[eqV] at h;simp[h]
  |.bool x,b,h=>by cases b<;>simp[eqV] at h;simp[h]
  |.str x,b,h=>by cases b<;>simp[eqV] at h;simp[h]
  | .slice t k es,b,h=>by
    cases b<;>simp[eqV] at h
    obtain⟨rfl,rfl,h⟩:=h
    rw[wZ _ _ h]
  |.nil,b,h=>by cases b<;>simp[eqV] at h;rfl
  |.opq,b,h=>by cases b<;>simp[eqV] at h;rfl
  |.rsl x y z u,b,h=>by cases b<;>simp[eqV] at h;simp[h]
  |.ptr x y,b,h=>by cases b<;>simp[eqV] at h;simp[h]
  |.nilptr,b,h=>by cases b<;>simp[eqV] at h;rfl
  | .ref cs o,b,h=>by
    cases b<;>simp[eqV] at h
    rw[wZ _ _ h.1,h.2]
  | .func f cs,b,h=>by
    cases b<;>simp[eqV] at h
    rw[wZ _ _ h.2,h.1]
  |.nilfunc,b,h=>by cases b<;>simp[eqV] at h;rfl
  | .agg cs,b,h=>by
    cases b<;>simp[eqV] at h
    rw[wZ _ _ h]
  | .tuple cs,b,h=>by
    cases b<;>simp[eqV] at h
    rw[wZ _ _ h]
  |.undef,b,h=>by cases b<;>simp[eqV] at h;rfl
  |.yld x,b,h=>by cases b<;>simp[eqV] at h;simp[h]
  |.mp x,b,h=>by cases b<;>simp[eqV] at h;simp[h]
  |.nilmp,b,h=>by cases b<;>simp[eqV] at h;rfl
  |.itr x,b,h=>by cases b<;>simp[eqV] at h;simp[h]
  |.lrec _ _ _ _ _ _ _ _,b,h=>by cases b<;>first|(simp[eqV] at h;done)|(simp only[eqV,eqO] at h;exact @of_decide_eq_true _ (Classical.propDecidable _) h)
  | .mrec x y,b,h=>by
    cases b<;>simp[eqV] at h
    rw[wZ _ _ h.1,wZ _ _ h.2]
  |.mit x y z,b,h=>by cases b<;>simp[eqV] at h;simp[h]
theorem wZ :∀(a b:List D),zVr a b=true->a=b
  |[],b,h=>by cases b<;>simp[zVr] at h;rfl
  | x::r,b,h=>by
    cases b<;>simp[zVr] at h
    rw[yFx _ _ h.1,wZ _ _ h.2]
end
mutual
theorem yKs :∀(a:D),eqV a a=true
  |.int k n=>by simp[eqV]
  |.bool x=>by simp[eqV]
  |.str x=>by simp[eqV]
  |.slice t k es=>by simp[eqV,uB es]
  |.nil=>rfl
  |.opq=>rfl
  |.rsl x y z u=>by simp[eqV]
  |.ptr x y=>by simp[eqV]
  |.nilptr=>rfl
  |.ref cs o=>by simp[eqV,uB cs]
  |.func f cs=>by simp[eqV,uB cs]
  |.nilfunc=>rfl
  |.agg cs=>by simp[eqV,uB cs]
  |.tuple cs=>by simp[eqV,uB cs]
  |.undef=>rfl
  |.yld _=>by simp[eqV]
  |.mp _=>by simp[eqV]
  |.nilmp=>rfl
  |.itr _=>by simp[eqV]
  |.lrec _ _ _ _ _ _ _ _=>by simp[eqV,eqO]
  |.mrec x y=>by simp[eqV,uB x,uB y]
  |.mit _ _ _=>by simp[eqV]
theorem uB :∀(a:List D),zVr a a=true
  |[]=>rfl
  |x::r=>by simp[zVr,yKs x,uB r]
end
theorem zHd :∀(a b:List (List D)),yHw a b=true->∀(i:Nat) (cs:List D),a[i]?=some cs->wB cs=false->b[i]?=some cs
  |[],_,_,i,cs,h,_=>by simp at h
  | x::r,[],h,i,cs,hi,ho=>by
    simp[yHw] at h
    cases i with
    |zero=>simp at hi;rw[hi,ho] at h;cases h.1
    |succ i=>simp at hi;exact absurd (zHd r [] h.2 i cs hi ho) (by simp)
  | x::r,y::s,h,i,cs,hi,ho=>by
    simp[yHw] at h
    cases i with
    |zero=>simp at hi ⊢;rw[hi,ho] at h;exact(wZ _ _ (h.1.resolve_left (by simp))).symm
    |succ i=>simp at hi ⊢;exact zHd r s h.2 i cs hi ho
theorem zTu :∀(a b:List (List D)),(∀(i:Nat) (cs:List D),a[i]?=some cs->wB cs=false->b[i]?=some cs)->yHw a b=true
  |[],_,_=>rfl
  | x::r,[],h=>by
    have h0:=h 0 x rfl
    simp only[yHw,Bool.and_eq_true]
    refine⟨?_,zTu r [] λi cs hi ho=>by simpa using h (i+1) cs (by simpa using hi) ho⟩
    cases ho:wB x with
    |true=>rfl
    |false=>simpa using h0 ho
  | x ::r,y::s,h=>by
    have h0:=h 0 x rfl
    simp only[yHw,Bool.and_eq_true,Bool.or_eq_true]
    refine⟨?_,zTu r s λi cs hi ho=>by simpa using h (i+1) cs (by simpa using hi) ho⟩
    cases ho:wB x with
    |true=>exact .inl rfl
    | false=>
      have:=h0 ho
      simp at this;subst this
      exact .inr (uB _)
theorem zZl {m m':Mem} (h:xEe m m'=true):Sub m m':=λi cs hi=>wQ (zHd _ _ h i cs (yC hi).1 (yC hi).2) (yC hi).2
theorem yPv {m m':Mem} (h:Sub m m'):xEe m m'=true:=zTu _ _ λi cs hi ho=>(yC (h i cs (wQ hi ho))).1
section
variable {X:Ctx} {F:Fi} {R:Type} {call:Call} {C:wC} {K:St->Option R} {K':St->Prop} {st:St} {x:R}
theorem zVc {o:Oper} (hK:∀st',K st'=some x->K' st') (h:zGr X o K st=some x):zGs X o K' st:=by
  unfold zGr at h;unfold zGs
  split at h
  · rename_i d hd;rw[hd];exact hK _ h
  · cases h
theorem zSu {m0:Mem} {o:Oper} (hK:∀st',K st'=some x->K' st') (h:zAt X m0 o K st=some x):zGq X m0 o K' st:=by
  unfold zAt at h;unfold zGq
  split at h
  · rename_i d hd;rw[hd];exact hK _ h
  · cases h
theorem zLv {o:Oper} (hK:∀st',K st'=some x->K' st') (h:zGt X F o K st=some x):zBi X F o K' st:=by
  unfold zGt at h;unfold zBi
  split at h
  · rename_i d m hd;rw[hd];exact hK _ h
  · cases h
theorem zNo {o:Oper} (hK:∀st',K st'=some x->K' st') (h:yHt X o K st=some x):yBm X o K' st:=by
  unfold yHt at h;unfold yBm
  split at h
  · rename_i d hd;rw[hd];exact hK _ h
  · cases h
theorem zTa {o:Oper} {cs:List D} (hK:∀st',K st'=some x->K' st') (h:zEd F o cs K st=some x):zEe F o cs K' st:=by
  unfold zEd at h;unfold zEe
  split at h
  · rename_i y hy
    rw[hy];simp only
    split at h
    · rename_i he;rw[he];rw[<-hy];exact hK _ h
    · rename_i he;rw[he];exact hK _ h
  · cases h
theorem zQb {o:Oper} {cs:List D} (hK:∀st',K st'=some x->K' st') (h:zAo F o cs K st=some x):zHq F o cs K' st:=by
  unfold zAo at h;unfold zHq
  split at h
  · rename_i y hy
    rw[hy];simp only
    split at h
    · rename_i he;rw[he];rw[<-hy];exact hK _ h
    · rename_i he
      rw[he]
      simp only
      split at h
      · rename_i hb;rw[hb];exact hK _ h
      · cases h
  · cases h
theorem zSq {t:Nat} {p v:Operand} (hK:∀st',K st'=some x->K' st') (h:zFa X t p v K st=some x):zJn X t p v K' st:=by
  unfold zFa at h;unfold zJn
  repeat' split at h
  all_goals first|(cases h;done)|(simp only[*];done)|(simp only[*];exact hK _ h)
theorem zPw {m0:Mem} {t:Nat} {p v:Operand} (hK:∀st',K st'=some x->K' st') (h:zBj X F m0 t p v K st=some x):zJm X F m0 t p v K' st:=by
  unfold zBj at h;unfold zJm
  repeat' split at h
  all_goals first|(cases h;done)|(simp only[*];done)|(simp only[*];exact hK _ h)
theorem zVk (hc:∀g m ds r m',call g m ds=some (r,m')->∀Q:D->Mem->Prop,Q r m'->C.run g m ds Q) {g:Nat} {ds:List D} {dst:Option Nat}
    (hK:∀st',K st'=some x->K' st') (h:zOj call g ds dst K st=some x):C.run g st.m ds λr m=>K' ((st.put dst r).setM m):=by
  unfold zOj at h
  split at h
  · rename_i r m he;exact hc _ _ _ _ _ he _ (hK _ h)
  · cases h
theorem zDd (hc:∀g m ds r m',call g m ds=some (r,m')->∀Q:D->Mem->Prop,Q r m'->C.run g m ds Q) {m0:Mem} {b:Bool} {g:Nat} {ds:List D} {dst:Option Nat}
    (hK:∀st',K st'=some x->K' st') (h:zFf call m0 b g ds dst K st=some x):zJi C m0 b g ds dst K' st:=by
  unfold zFf at h
  split at h
  · rename_i r m he
    split at h
    · rename_i hs
      exact⟨λr' m'=>r'=r/\m'=m,⟨r,m,rfl,rfl⟩,hc _ _ _ _ _ he _ ⟨rfl,rfl⟩,λr' m' ⟨e1,e2⟩=>by subst e1;subst e2;exact⟨by rw[Bool.or_eq_true] at hs;exact hs.imp id zZl,hK _ h⟩⟩
    · cases h
  · cases h
theorem zLo (hc:∀g m ds r m',call g m ds=some (r,m')->∀Q:D->Mem->Prop,Q r m'->C.run g m ds Q) {o:Oper}
    (hK:∀st',K st'=some x->K' st') (h:zDx X F call o K st=some x):xE X F C o K' st:=by
  unfold zDx at h
  repeat' split at h
  all_goals first|(cases h;done)|skip
  all_goals unfold xE
  all_goals first
    |(simp only[*];done)
    |(simp only[*];first|exact hK _ h|exact zVc hK h|exact zLv hK h|exact zNo hK h|exact zTa hK h|exact zSq hK h|exact zVk hc hK h)
theorem zHz (hc:∀g m ds r m',call g m ds=some (r,m')->∀Q:D->Mem->Prop,Q r m'->C.run g m ds Q) (hp:∀g ds r m',C.pf g=true->call g ⟨[],[]⟩ ds=some (r,m')->C.pv g ds=some r) {m0:Mem} {o:Oper}
    (hK:∀st',K st'=some x->K' st') (h:vR X F C.pf call m0 o K st=some x):xY X F C m0 o K' st:=by
  unfold vR at h
  split at h
  case h_4=>
    rename_i hop
    unfold xY
    rw[hop]
    simp only
    split at h
    · rename_i g hg
      rw[hg]
      simp only
      split at h
      · rename_i d m he
        obtain⟨_,_,_,_,hpf⟩:=zLr hg
        rw[hp _ _ _ _ hpf he];exact hK _ h
      · cases h
    · rename_i hg
      rw[hg]
      simp only
      split at h
      · rename_i hf
        rw[hf]
        simp only
        split at h
        · rename_i hlt;rw[hlt];exact zDd hc hK h
        · cases h
      · rename_i hf;rw[hf];exact zDd hc hK h
      · cases h
  all_goals repeat' split at h
  all_goals first|(cases h;done)|skip
  all_goals unfold xY
  all_goals first
    |(simp only[*];done)
    |(simp only[*];first|exact hK _ h|exact zSu hK h|exact zLv hK h|exact zNo hK h|exact zQb hK h|exact zPw hK h|exact zDd hc hK h)
theorem yFa (hc:∀g m ds r m',call g m ds=some (r,m')->∀Q:D->Mem->Prop,Q r m'->C.run g m ds Q) {all:List Oper} {o:Oper}
    (hK:∀st',K st'=some x->K' st') (h:opM X F call all o K st=some x):opI X F C all o K' st:=by
  unfold opM at h;unfold opI
  split at h
  · rename_i hg;rw[hg];exact zLo hc hK h
  · rename_i j want hg
    rw[hg];simp only
    split at h
    · rename_i b hb
      rw[hb];simp only
      split at h
      · rename_i he;rw[he];exact zLo hc hK h
      · rename_i he;rw[he];exact hK _ h
    · rename_i hb;rw[hb];exact hK _ h
    · cases h
theorem yAd (hc:∀g m ds r m',call g m ds=some (r,m')->∀Q:D->Mem->Prop,Q r m'->C.run g m ds Q) (hp:∀g ds r m',C.pf g=true->call g ⟨[],[]⟩ ds=some (r,m')->C.pv g ds=some r) {m0:Mem} {all:List Oper} {o:Oper}
    (hK:∀st',K st'=some x->K' st') (h:yBc X F C.pf call m0 all o K st=some x):opN X F C m0 all o K' st:=by
  unfold yBc at h;unfold opN
  split at h
  · rename_i hg;rw[hg];exact zHz hc hp hK h
  · rename_i j want hg
    rw[hg];simp only
    split at h
    · rename_i b hb
      rw[hb];simp only
      split at h
      · rename_i he;rw[he];exact zHz hc hp hK h
      · rename_i he;rw[he];exact hK _ h
    · rename_i hb;rw[hb];exact hK _ h
    · cases h
theorem zNq (hc:∀g m ds r m',call g m ds=some (r,m')->∀Q:D->Mem->Prop,Q r m'->C.run g m ds Q) {all:List Oper} (hK:∀st',K st'=some x->K' st') :
    ∀(l:List Oper) (st:St),yPb X F call all l K st=some x->zEy X F C all l K' st
  |[],_,h=>hK _ h
  |_::r,_,h=>yFa hc (zNq hc hK r) h
theorem zLt (hc:∀g m ds r m',call g m ds=some (r,m')->∀Q:D->Mem->Prop,Q r m'->C.run g m ds Q) (hp:∀g ds r m',C.pf g=true->call g ⟨[],[]⟩ ds=some (r,m')->C.pv g ds=some r) {m0:Mem} {all:List Oper} (hK:∀st',K st'=some x->K' st') :
    ∀(l:List Oper) (st:St),zTj X F C.pf call m0 all l K st=some x->zBw X F C m0 all l K' st
  |[],_,h=>hK _ h
  |_::r,_,h=>yAd hc hp (zLt hc hp hK r) h
end
structure xVk (X:Ctx) (pf:Nat->Bool) (f:Nat) (fx:Fx) (fn:Func):Prop where
  hf:X.P.funcs[f]?=some fn
  hb:fn.body=some fx.code
  hr:fn.results.toList=fx.rs
  hn:fn.ntmps=fx.n
  hen:zBc X.P f=true
  hok:vF X.P pf fx.F fx.n fx.code=true
def xHv (X:Ctx):Prop:=∀g m ds v m',X.pr g m ds=some (v,m')->qJ X (g % 100000) m ds λr m''=>r=v/\m''=m'
structure zOv (X:Ctx) (T:Nat->Option Fx):Prop where
  glob:zHu X
  pf:X.pf=pfT T
  pr:xHv X
  row:∀f fx,T f=some fx->Nat.ble qQ f=false/\∃fn,xVk X (pfT T) (f % 100000) fx fn
section
variable {X:Ctx} {T:Nat->Option Fx}
theorem yFz {rs:List ResultVar} {o:Exit×St} {r:D} {m:Mem} (h:yXf X rs o=some (r,m)) {Q:D->Mem->Prop} (hq:Q r m):xU X rs Q o.1 o.2:=by
  obtain⟨e,st⟩:=o
  cases e<;>simp only[yXf] at h<;>first
    |(cases h;done)
    | (split at h
       · rename_i d hd;cases h;simp only[xU,hd];exact hq
       · cases h)
theorem yKq {C:wC} (hpf:C.pf=pfT T):∀(n:Nat),(∀k,k<n->∀g m ds r m',xH X T k g m ds=some (r,m')->∀Q:D->Mem->Prop,Q r m'->C.run g m ds Q)->
    (∀k,k<n->∀g ds r m',C.pf g=true->xH X T k g ⟨[],[]⟩ ds=some (r,m')->C.pv g ds=some r)->∀(F:Fi) (c:Code) (st:St) (e:Exit) (st':St),xF X T n F c st=some (e,st')->
    ∀Q:zIt,Q e st'->wpI X F C c Q st:=by
  intro n
  induction n using Nat.strongRecOn with
  |_ n ih0=>
  intro hc0 hp0 F c st e st' h Q hQ
  have ih:∀k,k<n->∀(F:Fi) (c:Code) (st:St) (e:Exit) (st':St),xF X T k F c st=some (e,st')->∀Q:zIt,Q e st'->wpI X F C c Q st:=λk hk=>
    ih0 k hk (λj hj=>hc0 j (Nat.lt_trans hj hk)) (λj hj=>hp0 j (Nat.lt_trans hj hk))
  cases n with
  |zero=>simp[xF] at h
  |succ n=>
  have hc:=hc0 n (Nat.lt_succ_self n)
  have hp:=hp0 n (Nat.lt_succ_self n)
  cases c with
  |skip=>simp only[xF] at h;cases h;exact hQ
  | region id ops dr=>
    simp only[xF,wN] at h
    cases dr with
    | false=>
      simp only at h
      refine zNq (R:=Exit×St) (x:=(e,st')) (K:=λst'=>some (Exit.normal,st'.keep F.ext)) hc (λs hs=>?_) _ _ h
      cases hs;exact hQ
    | true=>
      simp only at h
      split at h
      · rename_i hb
        rw[<-hpf] at h
        refine⟨hb,zLt (R:=Exit×St) (x:=(e,st')) (K:=λst'=>some (Exit.normal,st'.keep F.ext)) hc hp (λs hs=>?_) _ _ h⟩
        cases hs;exact hQ
      · cases h
  | seq a b=>
    simp only[xF] at h
    unfold zBh at h
    split at h
    · rename_i s1 h1
      exact ih n (Nat.lt_succ_self n) F a st _ _ h1 _ (ih n (Nat.lt_succ_self n) F b s1 _ _ h _ hQ)
    · rename_i hne
      refine ih n (Nat.lt_succ_self n) F a st _ _ h _ ?_
      cases e with
      |normal=>exact(hne _ h).elim
      |exit id=>exact hQ
      |goto l=>exact hQ
      |ret=>exact hQ
      |panic c=>exact hQ
      |outgrown=>exact hQ
  | cond o a b=>
    simp only[xF] at h
    split at h
    · rename_i t ht
      simp only[wpI,ht]
      cases t with
      |true=>exact ih n (Nat.lt_succ_self n) F a st _ _ h _ hQ
      |false=>exact ih n (Nat.lt_succ_self n) F b st _ _ h _ hQ
    · cases h
  | block id a=>
    simp only[xF] at h
    split at h
    · rename_i id' s1 h1
      refine ih n (Nat.lt_succ_self n) F a st _ _ h1 _ ?_
      split at h
      · rename_i he;cases h;simp only[qU,if_pos (Nat.eq_of_beq_eq_true he)];exact hQ
      · rename_i he;cases h;simp only[qU,if_neg (Nat.ne_of_beq_eq_false he)];exact hQ
    · rename_i hne
      refine ih n (Nat.lt_succ_self n) F a st _ _ h _ ?_
      cases e with
      |normal=>exact hQ
      |exit id=>exact(hne _ _ h).elim
      |goto l=>exact hQ
      |ret=>exact hQ
      |panic c=>exact hQ
      |outgrown=>exact hQ
  |exit id=>simp only[xF] at h;cases h;exact hQ
  |ret=>simp only[xF] at h;cases h;exact hQ
  | loop a=>
    refine⟨Nat×St,λp=>p.2,λp=>p.1<=n/\zBh (xF X T p.1 F a p.2) (λs=>xF X T p.1 F (.loop a) s)=some (e,st'),λp=>p.1,⟨(n,st.keep (zBy F a)),rfl,Nat.le_refl _,by simpa only[xF,wN] using h⟩,?_⟩
    rintro ⟨k,s⟩ ⟨hk,hs⟩
    simp only at hk hs ⊢
    have hlt:k<n+1:=by omega
    unfold zBh at hs
    split at hs
    · rename_i s1 h1
      refine ih k hlt F a s _ _ h1 _ ?_
      cases k with
      |zero=>simp[xF] at h1
      | succ k=>
        exact⟨(k,s1.keep (zBy F a)),rfl,⟨by show k<=n;omega,by simpa only[xF,wN] using hs⟩,Nat.lt_succ_self k⟩
    · rename_i hne
      refine ih k hlt F a s _ _ hs _ ?_
      cases e with
      |normal=>exact(hne _ hs).elim
      |exit id=>exact hQ
      |goto l=>exact hQ
      |ret=>exact hQ
      |panic c=>exact hQ
      |outgrown=>exact hQ
  | rangeFunc g ps a b=>
    simp only[xF] at h
    split at h
    · rename_i f cap hg
      split at h
      · rename_i hf
        cases hx:zCa X T (xF X T n) f { st.m with boxes:=st.m.boxes++[[yHv F st ps a b]] } (.yld st.m.boxes.length::cap) with
        |none=>rw[hx] at h;cases h
        | some o=>
          obtain⟨r,m'⟩:=o
          rw[hx] at h
          simp only[wpI,hg,hf]
          refine hc f _ _ r m' hx _ ?_
          simp only[yCt] at h
          unfold zCp
          split at h
          · rename_i hb
            split at h
            · cases h
            · rename_i hs
              simp only[Bool.or_eq_false_iff] at hs
              cases h
              rw[hb]
              refine⟨Nat.ne_of_beq_eq_false hs.1,Nat.ne_of_beq_eq_false hs.2,?_⟩
              rename_i s j _
              match j with
              |0=>exact hQ
              |1=>exact hQ
              |k+2=>exact hQ
          · cases h
      · cases h
    · cases h
  |scope _=>simp[xF] at h
  |label _=>simp[xF] at h
  |goto _=>simp[xF] at h
  |refuse _=>simp[xF] at h
noncomputable def yXh (X:Ctx) (T:Nat->Option Fx) (n:Nat):wC:={ run:=zMj X,pv:=λg ds=>(xH X T n g ⟨[],[]⟩ ds).map (·.1),pf:=pfT T }
theorem zVb {id s j:Nat} {b:Bool} {m m':Mem} {r:D} {Q:D->Mem->Prop} (h:yUt m id s j b=some (r,m')) (hq:Q r m'):match zOe m id 1 s (some j) with|some m=>Q (.bool b) m|none=>False:=by
  unfold yUt at h
  split at h
  · rename_i m1 h1;rw[h1];cases h;exact hq
  · cases h
theorem zSy {id:Nat} {o:Exit×St} {r:D} {m':Mem} {Q:D->Mem->Prop} (h:yBz id (some o)=some (r,m')) (hq:Q r m'):zBx id Q o.1 o.2:=by
  obtain⟨e,st⟩:=o
  cases e<;>simp only[yBz] at h<;>first|(cases h;done)|exact zVb h hq
theorem yAr (hT : zOv X T):∀(n:Nat) (g:Nat) (m:Mem) (ds:List D) (r:D) (m':Mem),xH X T n g m ds=some (r,m')->
    (∀Q:D->Mem->Prop,Q r m'->zMj X g m ds Q)/\(pfT T g=true->∀m2,qJ X (g % 100000) m2 ds λr' m''=>r'=r/\m''=m2):=by
  intro n
  induction n using Nat.strongRecOn with
  |_ n ih=>
  intro g m ds r m' hc
  have okn:∀k,k<n->zAc X (yXh X T k):=λk hk=>⟨hT.pf.symm,λ_ _ _ _ h=>h,λg ds v hp hv m=>by
    simp only[yXh] at hv hp
    cases hcall:xH X T k g ⟨[],[]⟩ ds with
    |none=>rw[hcall] at hv;cases hv
    | some q=>
      obtain⟨r,m'⟩:=q
      rw[hcall] at hv
      cases hv
      exact(ih k hk g ⟨[],[]⟩ ds r m' hcall).2 hp m⟩
  have walk:∀k,k<n->∀(F:Fi) (c:Code) (st:St) (o:Exit×St),xF X T (k+1) F c st=some o->∀Q:zIt,Q o.1 o.2->wpI X F (yXh X T k) c Q st:=λk hk F c st o ho Q hq=>
    yKq (C:=yXh X T k) rfl (k+1) (λj hj g m ds r m' h Q hq=>(ih j (by omega) g m ds r m' h).1 Q hq) (λj hj g ds r m' _ h=>by
      simp only[yXh,zLi (Nat.le_of_lt_succ hj) _ _ _ _ h,Option.map_some]) F c st o.1 o.2 ho Q hq
  unfold xH zCa at hc
  unfold zMj
  cases hy:Nat.ble qQ g with
  | true=>
    rw[hy] at hc
    refine⟨λQ hq=>?_,λhp=>?_⟩
    · simp only at hc ⊢
      unfold zGw at hc
      simp only[wR,uA] at hc
      split at hc
      · rename_i F xs sl ps a c hb
        split at hc
        · rename_i hl
          split at hc
          · rename_i st he
            split at hc
            · rename_i m1 hm
              cases n with
              |zero=>simp[xF] at he
              | succ n=>
                cases hx:xF X T (n+1) F c (st.setM m1) with
                |none=>rw[hx] at hc;cases hc
                | some o=>
                  rw[hx] at hc
                  refine yEw (okn n (Nat.lt_succ_self n)) ?_
                  unfold zGu
                  rw[hb]
                  refine⟨Nat.eq_of_beq_eq_true hl,walk n (Nat.lt_succ_self n) F a _ _ he _ ?_⟩
                  simp only[zFg,hm]
                  exact walk n (Nat.lt_succ_self n) F c _ o hx _ (zSy hc hq)
            · cases hc
          · cases hc
        · cases hc
      · cases hc
    · unfold pfT at hp
      split at hp
      · rename_i fx hfx
        have:=(hT.row g fx hfx).1
        rw[hy] at this;cases this
      · cases hp
  |false=>
  rw[hy] at hc
  simp only at hc ⊢
  unfold zJh at hc
  split at hc
  · rename_i fx hfx
    split at hc
    · rename_i hle
      obtain⟨fn,G⟩:=(hT.row g fx hfx).2
      have body:∀(m:Mem) (ds:List D) (r:D) (m':Mem),ds.length<=fx.n->zCb X (xF X T n) fx m ds=some (r,m')->∀Q:D->Mem->Prop,Q r m'->qJ X (g % 100000) m ds Q:=λm ds r m' hle hb Q hq=>by
        clear hc
        unfold zCb at hb
        simp only[wR,uA] at hb
        split at hb
        · rename_i o ho
          cases n with
          |zero=>simp[xF] at ho
          |succ n=>
          refine ySi (okn n (Nat.lt_succ_self n)) fx.F G.hf G.hb G.hen (by rw[G.hn];exact G.hok) (by rw[G.hn];exact hle) ?_
          rw[G.hr]
          exact walk n (Nat.lt_succ_self n) fx.F fx.code _ o ho _ (yFz hb hq)
        · cases hb
      have hle':=Nat.le_of_ble_eq_true hle
      split at hc
      · rename_i hcl
        split at hc
        · rename_i r0 m0 he
          cases hc
          have main:∀m2,qJ X (g % 100000) m2 ds λr' m''=>r'=frz m0 r0/\m''=m2:=λm2=>
            (yGh hT.glob (Q:=λr m=>r=r0/\m=m0) (body ⟨[],[]⟩ (zH ds) r0 m0 (by rw[zBt];exact hle') he (λr m=>r=r0/\m=m0) ⟨rfl,rfl⟩) m2).mono λr' m'' ⟨⟨q,qm,⟨hq,hqm⟩,e1⟩,e2⟩=>⟨by rw[e1,hq,hqm],e2⟩
          exact⟨λQ hq=>(main m).mono λr' m'' ⟨e1,e2⟩=>by rw[e1,e2];exact hq,λ_=>main⟩
        · cases hc
      · rename_i hcl
        have hpf:pfT T g=true->False:=λhp=>by
          unfold pfT at hp
          rw[hfx] at hp
          simp only at hp
          rw[hcl] at hp;cases hp
        split at hc
        · split at hc
          · rename_i r0 m0 he
            split at hc
            · rename_i hsc
              cases hc
              have main:qJ X (g % 100000) m ds λr' m''=>r'=frz m0 r0/\m''=m:=
                (yAp hT.glob (Q:=λr' m'=>r'=r0/\m'=m0) (body ⟨[],[]⟩ (yMo m ds) r0 m0 (by rw[zEr];exact hle') he (λr' m'=>r'=r0/\m'=m0) ⟨rfl,rfl⟩) (λr' m' h=>by rw[h.1,h.2];exact hsc)).mono λr' m'' ⟨⟨q,qm,⟨hq,hqm⟩,e1⟩,e2⟩=>⟨by rw[e1,hq,hqm],e2⟩
              exact⟨λQ hq=>main.mono λr' m'' ⟨e1,e2⟩=>by rw[e1,e2];exact hq,λhp=>(hpf hp).elim⟩
            · cases hc
          · cases hc
        · exact⟨λQ hq=>body m ds r m' hle' hc Q hq,λhp=>(hpf hp).elim⟩
    · cases hc
  · rename_i hfx
    refine⟨λQ hq=>(hT.pr g m ds r m' hc).mono λr' m'' ⟨e1,e2⟩=>by rw[e1,e2];exact hq,λhp=>?_⟩
    unfold pfT at hp
    rw[hfx] at hp;cases hp
end
section
variable {X:Ctx} {T:Nat->Option Fx}
theorem yLq (hT:zOv X T) {g:Nat} {m:Mem} {ds:List D} {r:D} {m':Mem} (h:zG X T g m ds=some (r,m')) {Q:D->Mem->Prop} (hq:Q r m'):zMj X g m ds Q:=by
  obtain⟨n,hn⟩:=uT h
  exact(yAr hT n g m ds r m' (hn n (Nat.le_refl n))).1 Q hq
variable (X T) in
noncomputable def wY :wC:={
  run:=λg m ds Q=>match zG X T g m ds with|some (r,m')=>Q r m'|none=>False
  pv:=λg ds=>(zG X T g ⟨[],[]⟩ ds).map (·.1)
  pf:=pfT T }
@[go_sem] theorem zGj (g:Nat) (m:Mem) (ds:List D) (Q:D->Mem->Prop):(wY X T).run g m ds Q=match zG X T g m ds with|some (r,m')=>Q r m'|none=>False:=rfl
@[go_sem] theorem xHa :(wY X T).pf=pfT T:=rfl
@[go_sem] theorem xGz (g:Nat) (ds:List D):(wY X T).pv g ds=(zG X T g ⟨[],[]⟩ ds).map (·.1):=rfl
abbrev zTf (f:∀(k:Nat) (R:Type),(St->Option R)->Option R) (Q:St->Prop):Prop:=∃n st',Q st'/\∀k,n<=k->∀(R:Type) (K:St->Option R),f k R K=K st'
variable {F:Fi} {K':St->Prop} {st:St}
theorem yEx {o:Oper} (h:zGs X o K' st):zTf (λ_ _ K=>zGr X o K st) K':=by
  unfold zGs at h
  split at h
  · rename_i d hd;exact⟨0,_,h,λk _ R K=>by simp only[zGr,hd]⟩
  · exact h.elim
theorem yAa {m0:Mem} {o:Oper} (h:zGq X m0 o K' st):zTf (λ_ _ K=>zAt X m0 o K st) K':=by
  unfold zGq at h
  split at h
  · rename_i d hd;exact⟨0,_,h,λk _ R K=>by simp only[zAt,hd]⟩
  · exact h.elim
theorem zRp {o:Oper} (h:zBi X F o K' st):zTf (λ_ _ K=>zGt X F o K st) K':=by
  unfold zBi at h
  split at h
  · rename_i d m hd;exact⟨0,_,h,λk _ R K=>by simp only[zGt,hd]⟩
  · exact h.elim
theorem zWz {o:Oper} (h:yBm X o K' st):zTf (λ_ _ K=>yHt X o K st) K':=by
  unfold yBm at h
  split at h
  · rename_i d hd;exact⟨0,_,h,λk _ R K=>by simp only[yHt,hd]⟩
  · exact h.elim
theorem yAy {o:Oper} {cs:List D} (h:zEe F o cs K' st):zTf (λ_ _ K=>zEd F o cs K st) K':=by
  unfold zEe at h
  split at h
  · rename_i y hy
    split at h
    · rename_i he;exact⟨0,_,h,λk _ R K=>by simp only[zEd,hy,he]⟩
    · rename_i he;exact⟨0,_,h,λk _ R K=>by simp only[zEd,hy,he]⟩
  · exact h.elim
theorem zVn {o:Oper} {cs:List D} (h:zHq F o cs K' st):zTf (λ_ _ K=>zAo F o cs K st) K':=by
  unfold zHq at h
  split at h
  · rename_i y hy
    split at h
    · rename_i he;exact⟨0,_,h,λk _ R K=>by simp only[zAo,hy,he]⟩
    · rename_i he
      split at h
      · rename_i hb;exact⟨0,_,h,λk _ R K=>by simp only[zAo,hy,he,hb]⟩
      · exact h.elim
  · exact h.elim
theorem zZp {t:Nat} {p v:Operand} (h:zJn X t p v K' st):zTf (λ_ _ K=>zFa X t p v K st) K':=by
  unfold zJn at h
  split at h
  · split at h
    · split at h
      · split at h
        · exact⟨0,_,h,λk _ R K=>by simp only[zFa, *]⟩
        · exact h.elim
      · exact h.elim
    · split at h
      · split at h
        · split at h
          · exact⟨0,_,h,λk _ R K=>by simp only[zFa, *]⟩
          · exact h.elim
        · exact h.elim
      · exact h.elim
  · exact h.elim
theorem zUz {m0:Mem} {t:Nat} {p v:Operand} (h:zJm X F m0 t p v K' st):zTf (λ_ _ K=>zBj X F m0 t p v K st) K':=by
  unfold zJm at h
  split at h
  · split at h
    · split at h
      · split at h
        · exact⟨0,_,h,λk _ R K=>by simp only[zBj, *]⟩
        · exact h.elim
      · exact h.elim
    · split at h
      · split at h
        · split at h
          · exact⟨0,_,h,λk _ R K=>by simp only[zBj, *]⟩
          · exact h.elim
        · exact h.elim
      · exact h.elim
  · exact h.elim
theorem yGj {g:Nat} {ds:List D} {dst:Option Nat} (h:(wY X T).run g st.m ds λr m=>K' ((st.put dst r).setM m)):zTf (λk _ K=>zOj (xH X T k) g ds dst K st) K':=by
  rw[zGj] at h
  split at h
  · rename_i r m' hr
    obtain⟨n,hn⟩:=uT hr
    exact⟨n,_,h,λk hk R K=>by simp only[zOj,hn k hk]⟩
  · exact h.elim
theorem zHi {m0:Mem} {b:Bool} {g:Nat} {ds:List D} {dst:Option Nat} (h:zJi (wY X T) m0 b g ds dst K' st):zTf (λk _ K=>zFf (xH X T k) m0 b g ds dst K st) K':=by
  obtain⟨T',_,h1,h2⟩:=h
  rw[zGj] at h1
  split at h1
  · rename_i r m' hr
    obtain⟨n,hn⟩:=uT hr
    obtain⟨h3,h4⟩:=h2 r m' h1
    have h3:(b||xEe m0 m')=true:=by rw[Bool.or_eq_true];exact h3.imp id yPv
    exact⟨n,_,h4,λk hk R K=>by simp only[zFf,hn k hk,h3]⟩
  · exact h1.elim
theorem zQy {o:Oper} (h:xE X F (wY X T) o K' st):zTf (λk _ K=>zDx X F (xH X T k) o K st) K':=by
  unfold xE at h
  repeat' split at h
  all_goals first|exact h.elim|skip
  all_goals first
    |(obtain⟨n,s,h1,g⟩:=yEx h;exact⟨n,s,h1,λk hk R K=>by have g:=g k hk R K;clear h h1;unfold zDx;simp only[*]⟩)
    |(obtain⟨n,s,h1,g⟩:=zRp h;exact⟨n,s,h1,λk hk R K=>by have g:=g k hk R K;clear h h1;unfold zDx;simp only[*]⟩)
    |(obtain⟨n,s,h1,g⟩:=zWz h;exact⟨n,s,h1,λk hk R K=>by have g:=g k hk R K;clear h h1;unfold zDx;simp only[*]⟩)
    |(obtain⟨n,s,h1,g⟩:=yAy h;exact⟨n,s,h1,λk hk R K=>by have g:=g k hk R K;clear h h1;unfold zDx;simp only[*]⟩)
    |(obtain⟨n,s,h1,g⟩:=zZp h;exact⟨n,s,h1,λk hk R K=>by have g:=g k hk R K;clear h h1;unfold zDx;simp only[*]⟩)
    |(obtain⟨n,s,h1,g⟩:=yGj h;exact⟨n,s,h1,λk hk R K=>by have g:=g k hk R K;clear h h1;unfold zDx;simp only[*]⟩)
    |exact⟨0,_,h,λk _ R K=>by clear h;unfold zDx;simp only[*]⟩
theorem zNi {m0:Mem} {o:Oper} (h:xY X F (wY X T) m0 o K' st):zTf (λk _ K=>vR X F (pfT T) (xH X T k) m0 o K st) K':=by
  unfold xY at h
  split at h
  case h_4=>
    rename_i hop
    split at h
    · rename_i g hg
      split at h
      · rename_i d hd
        simp only[wY] at hd
        cases hr:zG X T g ⟨[],[]⟩ (vB X st _) with
        |none=>rw[hr] at hd;cases hd
        | some q=>
          obtain⟨r,m'⟩:=q
          rw[hr] at hd
          cases hd
          obtain⟨n,hn⟩:=uT hr
          have hg:zCm (pfT T) F o.dst _=some g:=hg
          exact⟨n,_,h,λk hk R K=>by unfold vR;rw[hop];simp only[hg,hn k hk]⟩
      · exact h.elim
    · rename_i hg
      have hg:zCm (pfT T) F o.dst _=none:=hg
      split at h
      · rename_i g cap hf
        split at h
        · rename_i hlt
          obtain⟨n,s,h1,g⟩:=zHi h
          exact⟨n,s,h1,λk hk R K=>by have g:=g k hk R K;unfold vR;rw[hop];simp only[hg,hf,hlt];exact g⟩
        · exact h.elim
      · rename_i id hf
        obtain⟨n,s,h1,g⟩:=zHi h
        exact⟨n,s,h1,λk hk R K=>by have g:=g k hk R K;unfold vR;rw[hop];simp only[hg,hf];exact g⟩
      · exact h.elim
  all_goals repeat' split at h
  all_goals first|exact h.elim|skip
  all_goals first
    |(obtain⟨n,s,h1,g⟩:=yAa h;exact⟨n,s,h1,λk hk R K=>by have g:=g k hk R K;clear h h1;unfold vR;simp only[*]⟩)
    |(obtain⟨n,s,h1,g⟩:=zRp h;exact⟨n,s,h1,λk hk R K=>by have g:=g k hk R K;clear h h1;unfold vR;simp only[*]⟩)
    |(obtain⟨n,s,h1,g⟩:=zWz h;exact⟨n,s,h1,λk hk R K=>by have g:=g k hk R K;clear h h1;unfold vR;simp only[*]⟩)
    |(obtain⟨n,s,h1,g⟩:=zVn h;exact⟨n,s,h1,λk hk R K=>by have g:=g k hk R K;clear h h1;unfold vR;simp only[*]⟩)
    |(obtain⟨n,s,h1,g⟩:=zUz h;exact⟨n,s,h1,λk hk R K=>by have g:=g k hk R K;clear h h1;unfold vR;simp only[*]⟩)
    |(obtain⟨n,s,h1,g⟩:=zHi h;exact⟨n,s,h1,λk hk R K=>by have g:=g k hk R K;clear h h1;unfold vR;simp only[*]⟩)
    |exact⟨0,_,h,λk _ R K=>by clear h;unfold vR;simp only[*]⟩
theorem yQn {all:List Oper} {o:Oper} (h:opI X F (wY X T) all o K' st):zTf (λk _ K=>opM X F (xH X T k) all o K st) K':=by
  unfold opI at h
  split at h
  · rename_i hg;obtain⟨n,s,h1,g⟩:=zQy h;exact⟨n,s,h1,λk hk R K=>by simp only[opM,hg];exact g k hk R K⟩
  · rename_i j want hg
    split at h
    · rename_i b hb
      split at h
      · rename_i he;obtain⟨n,s,h1,g⟩:=zQy h;exact⟨n,s,h1,λk hk R K=>by simp only[opM,hg,hb,he];exact g k hk R K⟩
      · rename_i he;exact⟨0,_,h,λk _ R K=>by simp only[opM,hg,hb,he]⟩
    · rename_i hb;exact⟨0,_,h,λk _ R K=>by simp only[opM,hg,hb]⟩
    · exact h.elim
theorem yJu {m0:Mem} {all:List Oper} {o:Oper} (h:opN X F (wY X T) m0 all o K' st):zTf (λk _ K=>yBc X F (pfT T) (xH X T k) m0 all o K st) K':=by
  unfold opN at h
  split at h
  · rename_i hg;obtain⟨n,s,h1,g⟩:=zNi h;exact⟨n,s,h1,λk hk R K=>by simp only[yBc,hg];exact g k hk R K⟩
  · rename_i j want hg
    split at h
    · rename_i b hb
      split at h
      · rename_i he;obtain⟨n,s,h1,g⟩:=zNi h;exact⟨n,s,h1,λk hk R K=>by simp only[yBc,hg,hb,he];exact g k hk R K⟩
      · rename_i he;exact⟨0,_,h,λk _ R K=>by simp only[yBc,hg,hb,he]⟩
    · rename_i hb;exact⟨0,_,h,λk _ R K=>by simp only[yBc,hg,hb]⟩
    · exact h.elim
theorem zXg {all:List Oper}:∀(l:List Oper) (st:St),zEy X F (wY X T) all l K' st->zTf (λk _ K=>yPb X F (xH X T k) all l K st) K'
  |[],st,h=>⟨0,st,h,λk _ R K=>rfl⟩
  | o ::r,st,h=>by
    obtain⟨n1,s1,h1,g1⟩:=yQn (K':=zEy X F (wY X T) all r K') h
    obtain⟨n2,s2,h2,g2⟩:=zXg r s1 h1
    exact⟨max n1 n2,s2,h2,λk hk R K=>by
      show opM X F (xH X T k) all o (yPb X F (xH X T k) all r K) st=K s2
      exact(g1 k (by omega) R _).trans (g2 k (by omega) R K)⟩
theorem zRl {m0:Mem} {all:List Oper}:∀(l:List Oper) (st:St),zBw X F (wY X T) m0 all l K' st->zTf (λk _ K=>zTj X F (pfT T) (xH X T k) m0 all l K st) K'
  |[],st,h=>⟨0,st,h,λk _ R K=>rfl⟩
  | o ::r,st,h=>by
    obtain⟨n1,s1,h1,g1⟩:=yJu (K':=zBw X F (wY X T) m0 all r K') h
    obtain⟨n2,s2,h2,g2⟩:=zRl r s1 h1
    exact⟨max n1 n2,s2,h2,λk hk R K=>by
      show yBc X F (pfT T) (xH X T k) m0 all o (zTj X F (pfT T) (xH X T k) m0 all r K) st=K s2
      exact(g1 k (by omega) R _).trans (g2 k (by omega) R K)⟩
theorem qV : ∀ (c:Code) (Q:zIt) (st:St),wpI X F (wY X T) c Q st->∃n e st',Q e st'/\xF X T n F c st=some (e,st')
  |.skip,Q,st,h=>⟨1,.normal,st,h,rfl⟩
  | .region id ops dr,Q,st,h=>by
    cases dr with
    | false=>
      obtain⟨n,s,h1,g⟩:=zXg _ _ h
      exact⟨n+1,_,_,h1,by simp only[xF,wN];exact g n (Nat.le_refl n) _ _⟩
    | true=>
      obtain⟨n,s,h1,g⟩:=zRl _ _ h.2
      exact⟨n+1,_,_,h1,by simp only[xF,wN,h.1];exact g n (Nat.le_refl n) _ _⟩
  | .seq a b,Q,st,h=>by
    obtain⟨n1,e1,s1,h1,g1⟩:=qV a _ st h
    cases e1 with
    | normal=>
      obtain⟨n2,e2,s2,h2,g2⟩:=qV b Q s1 h1
      refine⟨max n1 n2+1,e2,s2,h2,?_⟩
      rw[xF]
      simp only[zBh]
      rw[zEn (Nat.le_max_left n1 n2) _ _ _ _ g1]
      exact zEn (Nat.le_max_right n1 n2) _ _ _ _ g2
    |exit id=>exact⟨n1+1,_,s1,h1,by rw[xF];simp only[zBh];rw[g1]⟩
    |goto l=>exact⟨n1+1,_,s1,h1,by rw[xF];simp only[zBh];rw[g1]⟩
    |ret=>exact⟨n1+1,_,s1,h1,by rw[xF];simp only[zBh];rw[g1]⟩
    |panic c=>exact⟨n1+1,_,s1,h1,by rw[xF];simp only[zBh];rw[g1]⟩
    |outgrown=>exact⟨n1+1,_,s1,h1,by rw[xF];simp only[zBh];rw[g1]⟩
  | .cond c a b,Q,st,h=>by
    simp only[wpI] at h
    split at h
    · rename_i t ht
      cases t with
      | true=>
        obtain⟨n1,e1,s1,h1,g1⟩:=qV a Q st h
        exact⟨n1+1,e1,s1,h1,by rw[xF];simp only[ht];exact g1⟩
      | false=>
        obtain⟨n1,e1,s1,h1,g1⟩:=qV b Q st h
        exact⟨n1+1,e1,s1,h1,by rw[xF];simp only[ht];exact g1⟩
    · exact h.elim
  | .block id a,Q,st,h=>by
    obtain⟨n1,e1,s1,h1,g1⟩:=qV a _ st h
    cases e1 with
    | exit id'=>
      simp only[qU] at h1
      split at h1
      · rename_i he
        exact⟨n1+1,_,s1,h1,by rw[xF];rw[g1];simp[he]⟩
      · rename_i he
        exact⟨n1+1,_,s1,h1,by rw[xF];rw[g1];simp only[show id'.beq id=false from by cases hb:id'.beq id with|true=>exact(he (Nat.eq_of_beq_eq_true hb)).elim|false=>rfl]⟩
    |normal=>exact⟨n1+1,_,s1,h1,by rw[xF];rw[g1]⟩
    |goto l=>exact⟨n1+1,_,s1,h1,by rw[xF];rw[g1]⟩
    |ret=>exact⟨n1+1,_,s1,h1,by rw[xF];rw[g1]⟩
    |panic c=>exact⟨n1+1,_,s1,h1,by rw[xF];rw[g1]⟩
    |outgrown=>exact⟨n1+1,_,s1,h1,by rw[xF];rw[g1]⟩
  |.exit id,Q,st,h=>⟨1,.exit id,st,h,rfl⟩
  |.ret,Q,st,h=>⟨1,.ret,st,h,rfl⟩
  | .loop a,Q,st,h=>by
    obtain⟨T',head,I,μ,⟨p0,h0,hI⟩,hr⟩:=h
    have key:∀(m:Nat) (p:T'),μ p=m->I p->∀s:St,s.keep (zBy F a)=head p->∃n e st',Q e st'/\xF X T n F (.loop a) s=some (e,st'):=by
      intro m
      induction m using Nat.strongRecOn with
      | _ m ih=>
        intro p hm hp s hs
        obtain⟨n1,e1,s1,h1,g1⟩:=qV a _ (head p) (hr p hp)
        cases e1 with
        | normal=>
          obtain⟨p',hk,hI',hlt⟩:=h1
          obtain⟨n2,e2,s2,h2,g2⟩:=ih (μ p') (hm▸hlt) p' rfl hI' s1 hk
          refine⟨max n1 n2+1,e2,s2,h2,?_⟩
          rw[xF]
          simp only[zBh,wN]
          rw[hs,zEn (Nat.le_max_left n1 n2) _ _ _ _ g1]
          exact zEn (Nat.le_max_right n1 n2) _ _ _ _ g2
        |exit id=>exact⟨n1+1,_,s1,h1,by rw[xF];simp only[zBh,wN];rw[hs,g1]⟩
        |goto l=>exact⟨n1+1,_,s1,h1,by rw[xF];simp only[zBh,wN];rw[hs,g1]⟩
        |ret=>exact⟨n1+1,_,s1,h1,by rw[xF];simp only[zBh,wN];rw[hs,g1]⟩
        |panic c=>exact⟨n1+1,_,s1,h1,by rw[xF];simp only[zBh,wN];rw[hs,g1]⟩
        |outgrown=>exact⟨n1+1,_,s1,h1,by rw[xF];simp only[zBh,wN];rw[hs,g1]⟩
    exact key _ p0 rfl hI st h0
  | .rangeFunc g ps a b,Q,st,h=>by
    simp only[wpI] at h
    split at h
    · rename_i f cap hg
      split at h
      · rename_i hf
        rw[zGj] at h
        split at h
        · rename_i r m' hr
          obtain⟨n,hn⟩:=uT hr
          unfold zCp at h
          split at h
          · rename_i s j hb
            obtain⟨h1,h3,h⟩:=h
            have hh:(Nat.beq s 1||Nat.beq s 3)=false:=by
              rw[Bool.or_eq_false_iff]
              refine⟨?_,?_⟩
              · cases hx:Nat.beq s 1 with
                |true=>exact(h1 (Nat.eq_of_beq_eq_true hx)).elim
                |false=>rfl
              · cases hx:Nat.beq s 3 with
                |true=>exact(h3 (Nat.eq_of_beq_eq_true hx)).elim
                |false=>rfl
            refine⟨n+1,yXu j,st.setM { m' with boxes:=m'.boxes.set st.m.boxes.length [zOi] },?_,?_⟩
            rotate_left
            · simp only[xF,hg,hf]
              have:=hn n (Nat.le_refl n)
              unfold xH at this
              rw[this]
              simp only[yCt,hb,hh]
            · match j,h with
              |0,h=>exact h
              |1,h=>exact h
              |k+2,h=>exact h
          · exact h.elim
        · exact h.elim
      · exact h.elim
    · exact h.elim
  |.scope _,Q,st,h=>h.elim
  |.label _,Q,st,h=>h.elim
  |.goto _,Q,st,h=>h.elim
  |.refuse _,Q,st,h=>h.elim
theorem zLd {rs:List ResultVar} {e:Exit} {st:St} {Q:D->Mem->Prop} (h:xU X rs Q e st):∃r m,yXf X rs (e,st)=some (r,m)/\Q r m:=by
  cases e<;>simp only[xU] at h<;>first
    |exact h.elim
    | (split at h
       · rename_i d hd;exact⟨d,st.m,by simp only[yXf,hd],h⟩
       · exact h.elim)
noncomputable def zA (X:Ctx) (T:Nat->Option Fx) (g:Nat) (ds:List D):Option D:=(zG X T g ⟨[],[]⟩ ds).map (·.1)
theorem qP {n g:Nat} (hy:Nat.ble qQ g=false) (m:Mem) (ds:List D):xH X T n g m ds=zJh X T (xF X T n) g m ds:=by
  unfold xH zCa;simp only[hy]
def yUs (f:Nat):Bool:=!Nat.ble qQ f&&!(Nat.ble 200000 f&&Nat.blt f 300000)
theorem yEv {f:Nat} (h:yUs f=true):Nat.ble qQ f=false/\(Nat.ble 200000 f&&Nat.blt f 300000)=false:=by
  unfold yUs at h
  rw[Bool.and_eq_true] at h
  exact⟨by simpa using h.1,by
    have:=h.2
    cases hb:(Nat.ble 200000 f&&Nat.blt f 300000) with
    |false=>rfl
    |true=>rw[hb] at this;cases this⟩
theorem zYi {f:Nat} {fx:Fx} {m:Mem} {ds:List D} {Q:D->Mem->Prop} (hT:T f=some fx) (hcl:fx.cl=false) (hf:yUs f=true) (hl:Nat.ble ds.length fx.n=true) (h:wpI X fx.F (wY X T) fx.code (xU X fx.rs Q) (zIn ds m)) :
    ∃r m',zG X T f m ds=some (r,m')/\Q r m':=by
  obtain⟨n,e,st,h1,g⟩:=qV _ _ _ h
  obtain⟨r,m',he,hq⟩:=zLd h1
  obtain⟨hy,hf⟩:=yEv hf
  refine⟨r,m',wU (n:=n) ?_,hq⟩
  rw[qP hy]
  unfold zJh
  simp only[hT,hl,hcl,hf,zCb,wR,uA,g,he]
theorem yLp {f:Nat} {fx:Fx} {m:Mem} {ds:List D} {v:D} {m1:Mem} (hT:T f=some fx) (hcl:fx.cl=false) (hf:yUs f=true) (hl:Nat.ble ds.length fx.n=true)
    (h:wpI X fx.F (wY X T) fx.code (xU X fx.rs λr m'=>r=v/\m'=m1) (zIn ds m)):zG X T f m ds=some (v,m1):=by
  obtain⟨r,m',h1,rfl,rfl⟩:=zYi hT hcl hf hl h
  exact h1
theorem zYj {f:Nat} {fx:Fx} {ds:List D} {Q:D->Mem->Prop} (hT:T f=some fx) (hy:Nat.ble qQ f=false) (hcl:fx.cl=true) (hl:Nat.ble ds.length fx.n=true) (h:wpI X fx.F (wY X T) fx.code (xU X fx.rs Q) (zIn (zH ds) ⟨[],[]⟩)) :
    ∃r m',Q r m'/\∀m,zG X T f m ds=some (frz m' r,m):=by
  obtain⟨n,e,st,h1,g⟩:=qV _ _ _ h
  obtain⟨r,m',he,hq⟩:=zLd h1
  refine⟨r,m',hq,λm=>wU (n:=n) ?_⟩
  rw[qP hy]
  unfold zJh
  simp only[hT,hl,hcl,zCb,wR,uA,g,he]
theorem zVj {id:Nat} {m:Mem} {ds:List D} {Q:D->Mem->Prop} (h:zGu X (wY X T) id Q m ds):∃r m',zG X T (qQ+id) m ds=some (r,m')/\Q r m':=by
  unfold zGu at h
  split at h
  · rename_i F xs sl ps a c hb
    obtain⟨hl,h⟩:=h
    obtain⟨n1,e1,s1,h1,g1⟩:=qV _ _ _ h
    cases e1<;>first|exact h1.elim|skip
    simp only[zFg] at h1
    split at h1
    · rename_i m1 hm
      obtain⟨n2,e2,s2,h2,g2⟩:=qV _ _ _ h1
      have fin:∃r m',yBz id (some (e2,s2))=some (r,m')/\Q r m':=by
        cases e2<;>simp only[zBx] at h2<;>first
          |exact h2.elim
          | (split at h2
             · rename_i m' hm';exact⟨_,m',by simp only[yBz,yUt,hm'],h2⟩
             · exact h2.elim)
      obtain⟨r,m',he,hq⟩:=fin
      refine⟨r,m',wU (n:=max n1 n2) ?_,hq⟩
      unfold xH zCa zGw
      have hy:Nat.ble qQ (qQ+id)=true:=Nat.ble_eq_true_of_le (Nat.le_add_right _ _)
      have hlb:Nat.beq ds.length ps.length=true:=by rw[hl];exact Nat.beq_refl _
      simp only[hy,Nat.add_sub_cancel_left,hb,hlb,wR,uA,zEn (Nat.le_max_left n1 n2) _ _ _ _ g1,hm,zEn (Nat.le_max_right n1 n2) _ _ _ _ g2]
      exact he
    · exact h1.elim
  · exact h.elim
theorem zPq {g:Nat} {m:Mem} {ds:List D} {v:D} {m':Mem} (hT:T g=none) (hy:Nat.ble qQ g=false) (h:X.pr g m ds=some (v,m')):zG X T g m ds=some (v,m'):=by
  refine wU (n:=0) ?_
  rw[qP hy]
  unfold zJh
  simp only[hT,h]
end
def xEk :List (Nat×Fi)->Nat->Option Fi
 |[],_=>none
 |(i,F)::r,f=>match Nat.beq i f with|true=>some F|false=>xEk r f
def mkT (P:Program) (tab:List (Nat×Fi)) (cl:List Nat) (f:Nat):Option Fx:=
 match xEk tab f with
 | some F=>(match P.funcs[f % 100000]? with
  |some fn=>(match fn.body with
   |some c=>some ⟨F,fn.ntmps,fn.results.toList,c,wX cl f⟩
   |none=>none)
  |none=>none)
 |none=>none
def okF (P:Program) (pf:Nat->Bool) (f:Nat) (F:Fi):Bool:=
 match P.funcs[f % 100000]? with
 |some fn=>(match fn.body with
  |some c=>!Nat.ble qQ f&&(zBc P (f % 100000)&&vF P pf F fn.ntmps c)
  |none=>true)
 |none=>true
def yBu (P:Program) (pf:Nat->Bool):List (Nat×Fi)->Bool
 |[]=>true
 |(f,F)::r=>okF P pf f F&&yBu P pf r
theorem zXh {P:Program} {pf:Nat->Bool}:∀{tab:List (Nat×Fi)} {f:Nat} {F:Fi},yBu P pf tab=true->xEk tab f=some F->okF P pf f F=true
 |[],f,F,_,h=>by cases h
 |(i,F')::r,f,F,ho,h=>by
  simp only[yBu,Bool.and_eq_true] at ho
  simp only[xEk] at h
  split at h
  ·rename_i he;cases h;rw[<-Nat.eq_of_beq_eq_true he];exact ho.1
  ·exact zXh ho.2 h
theorem yAz {X:Ctx} (hG:zHu X) {tab:List (Nat×Fi)} {cl:List Nat} (hpf:X.pf=pfT (mkT X.P tab cl)) (hpr:xHv X) (ho:yBu X.P (pfT (mkT X.P tab cl)) tab=true):zOv X (mkT X.P tab cl):=by
 refine⟨hG,hpf,hpr,λf fx h=>?_⟩
 have h0:=h
 unfold mkT at h
 split at h
 ·rename_i F hF
  have hok:=zXh ho hF
  split at h
  ·rename_i fn hfn
   split at h
   ·rename_i c hc
    cases h
    unfold okF at hok
    rw[hfn] at hok
    simp only[hc,Bool.and_eq_true] at hok
    exact⟨by simpa using hok.1,fn,hfn,hc,rfl,rfl,hok.2.1,hok.2.2⟩
   ·cases h
  ·cases h
 ·cases h
section
variable {X:Ctx} {T:Nat->Option Fx}
theorem zO {f:Nat} {F:Fi} {n:Nat} {rs:List ResultVar} {c:Code} {m:Mem} {ds:List D} {Q:D->Mem->Prop} (hT:T f=some ⟨F,n,rs,c,false⟩) (hl:Nat.ble ds.length n=true)
  (h:wpI X F (wY X T) c (xU X rs Q) (zIn ds m)) (hf:yUs f=true:=by decide):∃r m',zG X T f m ds=some (r,m')/\Q r m':=zYi hT rfl hf hl h
theorem yB {f:Nat} {F:Fi} {n:Nat} {rs:List ResultVar} {c:Code} {m:Mem} {ds:List D} {v:D} {m1:Mem} (hT:T f=some ⟨F,n,rs,c,false⟩) (hl:Nat.ble ds.length n=true)
  (h:wpI X F (wY X T) c (xU X rs λr m'=>r=v/\m'=m1) (zIn ds m)) (hf:yUs f=true:=by decide):zG X T f m ds=some (v,m1):=yLp hT rfl hf hl h
theorem zD {f:Nat} {F:Fi} {n:Nat} {rs:List ResultVar} {c:Code} {ds:List D} {v:D} (hT:T f=some ⟨F,n,rs,c,true⟩) (hl:Nat.ble ds.length n=true) (hs:zH ds=ds)
  (h:wpI X F (wY X T) c (xU X rs λr m=>frz m r=v) (zIn ds ⟨[],[]⟩)) (hy:Nat.ble qQ f=false:=by decide):zA X T f ds=some v:=by
 obtain⟨r,m',h1,h2⟩:=zYj hT hy rfl hl (by rw[hs];exact h)
 unfold zA
 rw[h2]
 simp only[Option.map_some,h1]
theorem zS {f:Nat} {F:Fi} {n:Nat} {rs:List ResultVar} {c:Code} {ds:List D} {Q:D->Prop} (hT:T f=some ⟨F,n,rs,c,true⟩) (hl:Nat.ble ds.length n=true) (hs:zH ds=ds)
  (h:wpI X F (wY X T) c (xU X rs λr m=>Q (frz m r)) (zIn ds ⟨[],[]⟩)) (hy:Nat.ble qQ f=false:=by decide):∃v,zA X T f ds=some v/\Q v:=by
 obtain⟨r,m',h1,h2⟩:=zYj hT hy rfl hl (by rw[hs];exact h)
 refine⟨frz m' r,?_,h1⟩
 unfold zA
 rw[h2]
 rfl
theorem yGk {g:Nat} {F:Fi} {n:Nat} {rs:List ResultVar} {c:Code} (hT:T g=some ⟨F,n,rs,c,false⟩) {m:Mem} {ds l:List D} {v:D} (hl:yMo m ds=l) (hle:Nat.ble l.length n=true)
  (h:wpI X F (wY X T) c (xU X rs λr m=>frs m r=true/\frz m r=v) (zIn l ⟨[],[]⟩)) (hf:(Nat.ble 200000 g&&Nat.blt g 300000)=true:=by decide) (hy:Nat.ble qQ g=false:=by decide):zG X T g m ds=some (v,m):=by
 obtain⟨k,e,st,h1,g1⟩:=qV _ _ _ h
 obtain⟨r,m',he,h2,h3⟩:=zLd h1
 have hlen:ds.length=l.length:=by rw[<-hl,zEr]
 refine wU (n:=k) ?_
 rw[qP hy]
 unfold zJh
 simp only[hT,hlen,hle,hf,hl,zCb,wR,uA,g1,he,h2,h3]
theorem zGi {g:Nat} (hp:pfT T g=true) (hy:Nat.ble qQ g=false) (m:Mem) (ds:List D):zG X T g m ds=(match zA X T g (zH ds) with|some v=>some (v,m)|none=>none):=by
 have hst:∀ds:List D,zH (zH ds)=zH ds:=vO
 have key:∀(n:Nat) (m:Mem) (ds:List D),xH X T n g m ds=(xH X T n g ⟨[],[]⟩ (zH ds)).map λp=>(p.1,m):=λn m ds=>by
  rw[qP hy,qP hy]
  unfold zJh
  unfold pfT at hp
  cases hT:T g with
  |none=>rw[hT] at hp;cases hp
  | some fx=>
   rw[hT] at hp
   have hp:fx.cl=true:=hp
   simp only[hp,hst,zBt]
   cases Nat.ble ds.length fx.n with
   |false=>rfl
   |true=>
    simp only
    cases zCb X (xF X T n) fx ⟨[],[]⟩ (zH ds)<;>rfl
 unfold zA
 cases h:zG X T g ⟨[],[]⟩ (zH ds) with
 | none=>
  simp only[Option.map_none]
  cases h2:zG X T g m ds with
  |none=>rfl
  |some q=>
   obtain⟨n,hn⟩:=uT h2
   have:=key n m ds
   rw[hn n (Nat.le_refl n)] at this
   cases h3:xH X T n g ⟨[],[]⟩ (zH ds) with
   |none=>rw[h3] at this;cases this
   |some q2=>rw[wU h3] at h;cases h
 |some q=>
  obtain⟨n,hn⟩:=uT h
  have:=key n m ds
  rw[hn n (Nat.le_refl n)] at this
  rw[wU this]
  rfl
@[go_sem] theorem xGy (m0:Mem) (b:Bool) (g:Nat) (ds:List D) (dst:Option Nat) (K:St->Prop) (st:St):zJi (wY X T) m0 b g ds dst K st=match zG X T g st.m ds with|some (r,m')=>(b=true\/Sub m0 m')/\K ((st.put dst r).setM m')|none=>False:=by
 apply propext
 unfold zJi
 simp only[zGj]
 cases zG X T g st.m ds with
 |none=>exact⟨λ⟨_,_,h,_⟩=>h,λh=>h.elim⟩
 |some p=>
  obtain⟨r,m'⟩:=p
  exact⟨λ⟨T',_,h,h2⟩=>h2 r m' h,λh=>⟨λa b=>a=r/\b=m',⟨r,m',rfl,rfl⟩,⟨rfl,rfl⟩,λa b ⟨e1,e2⟩=>by subst e1;subst e2;exact h⟩⟩
theorem Sub.refl (m:Mem):Sub m m:=λ_ _ h=>h
@[go_sem] theorem xHq (m:Mem):Sub m m=True:=eq_true (Sub.refl m)
end
section
variable {X:Ctx} {F:Fi} {C:wC} {st:St} {m:Mem} {α:Type}
@[go_sem] theorem xSq (f:Nat->α) (x:Nat) (a:α) (y:Nat):upd f x a y=if y=x then a else f y:=rfl
@[go_sem] theorem xQa (y:Nat):slL [] y=.undef:=rfl
@[go_sem] theorem xFe (x:Nat) (a:D) (r:List (Nat×D)) (y:Nat):slL ((x,a)::r) y=if y=x then a else slL r y:=rfl
@[go_sem] theorem xQf (y:Nat):opL ([]:List (Nat×α)) y=none:=rfl
@[go_sem] theorem xFs (x:Nat) (a:α) (r:List (Nat×α)) (y:Nat):opL ((x,a)::r) y=if y=x then some a else opL r y:=rfl
@[go_sem] theorem xCv (f:Nat->D):zJg f []=[]:=rfl
@[go_sem] theorem yWm (f:Nat->D) (x:Nat) (r:List Nat):zJg f (x::r)=(x,f x)::zJg f r:=rfl
@[go_sem] theorem xCw (f:Nat->Option α):zCj f []=[]:=rfl
@[go_sem] theorem yWn (f:Nat->Option α) (x:Nat) (r:List Nat):zCj f (x::r)=match f x with|some a=>(x,a)::zCj f r|none=>zCj f r:=rfl
@[go_sem] theorem xFz (x:Nat):wX [] x=false:=rfl
@[go_sem] theorem xCr (y:Nat) (r:List Nat) (x:Nat):wX (y::r) x=if y=x then true else wX r x:=rfl
@[go_sem] theorem yOn (l:List Nat) (k o:Nat):zKj l (some (k,o))=match wX l k with|true=>some (k,o)|false=>none:=rfl
@[go_sem] theorem yOo (l:List Nat):zKj l none=none:=rfl
@[go_sem] theorem xGe (l:List Nat) (lp:Nat->Option (Nat×Nat)) (x:Nat):zZc l lp x=zKj l (lp x):=rfl
@[go_sem] theorem xQw (l:List Nat) (sl lp bx) (m:Mem):St.keep ⟨sl,lp,bx,m⟩ l=⟨slL (zJg sl l),opL (zCj (zZc l lp) l),opL (zCj bx l),m⟩:=rfl
@[go_sem] theorem yOq (t k o:Nat):zEo t (some (k,o))=if k=t then none else some (k,o):=rfl
@[go_sem] theorem yOr (t:Nat):zEo t none=none:=rfl
@[go_sem] theorem yWv (t:Nat) (lp:Nat->Option (Nat×Nat)) (x:Nat):zGz t lp x=zEo t (lp x):=rfl
@[go_sem] theorem ySx (lp:Nat->Option (Nat×Nat)) (x:Nat):zJl none lp x=lp:=rfl
@[go_sem] theorem ySw (a:Nat×Nat) (lp:Nat->Option (Nat×Nat)) (x:Nat):zJl (some a) lp x=upd lp x none:=rfl
@[go_sem] theorem xFj (sl lp bx) (m:Mem) (x:Nat) (d:D):St.put ⟨sl,lp,bx,m⟩ (some x) d=⟨upd sl x d,zJl (lp x) lp x,bx,m⟩:=rfl
@[go_sem] theorem xFk (st:St) (d:D):st.put none d=st:=rfl
@[go_sem] theorem xQb (sl lp bx) (m m':Mem):St.setM ⟨sl,lp,bx,m⟩ m'=⟨sl,lp,bx,m'⟩:=rfl
@[go_sem] theorem xQd (sl lp bx) (m:Mem) (x k o:Nat):St.putL ⟨sl,lp,bx,m⟩ x k o=⟨upd sl x .undef,upd lp x (some (k,o)),bx,m⟩:=rfl
@[go_sem] theorem yUb (x:Nat) (lp:Nat->Option (Nat×Nat)):zNa (none:Option α) x lp=lp:=rfl
@[go_sem] theorem yUa (a:α) (x:Nat) (lp:Nat->Option (Nat×Nat)):zNa (some a) x lp=zGz x lp:=rfl
@[go_sem] theorem xCp (sl lp bx) (m:Mem) (x:Nat) (cs:List D):St.newBox ⟨sl,lp,bx,m⟩ x cs=⟨upd sl x .undef,upd (zNa (bx x) x lp) x (some (x,0)),upd bx x (some cs),m⟩:=rfl
@[go_sem] theorem xTb (sl lp bx) (m:Mem) (x:Nat):ev X ⟨sl,lp,bx,m⟩ (.tmp x)=sl x:=rfl
@[go_sem] theorem xTe (st:St) (k:IntKind) (n:Int):ev X st (.const (.int k n))=.int k n:=rfl
@[go_sem] theorem xRl (st:St) (b:Bool):ev X st (.const (.bool b))=.bool b:=rfl
@[go_sem] theorem xTc (st:St) (s:ByteArray):ev X st (.const (.string s))=.str s.data.toList:=rfl
@[go_sem] theorem xTd (st:St):ev X st (.const (.slice none 0 0))=.nil:=rfl
@[go_sem] theorem xDg (st:St):ev X st (.const (.pointer none))=.nilptr:=rfl
@[go_sem] theorem yWt (st:St):ev X st (.const .nilFunc)=.nilfunc:=rfl
@[go_sem] theorem xRk (st:St) (f:Nat):ev X st (.func f)=.func f []:=rfl
@[go_sem] theorem xDh (st:St) (g:Nat):ev X st (.global g)=match X.G g with|some cs=>.ref cs 0|none=>.undef:=rfl
@[go_sem] theorem xEa (st:St):vB X st []=[]:=rfl
@[go_sem] theorem yWz (st:St) (x:Operand) (r:List Operand):vB X st (x::r)=ev X st x::vB X st r:=rfl
@[go_sem] theorem yWj (st:St):wH X st []=[]:=rfl
@[go_sem] theorem yTs (st:St) (i:Nat) (x:Operand) (r:List (Nat×Operand)):wH X st ((i,x)::r)=(i,ev X st x)::wH X st r:=rfl
@[go_sem] theorem zGh (cs:List D):(D.agg cs).cells=cs:=rfl
@[go_sem] theorem yGi (k:IntKind) (n:Int):(D.int k n).cells=[.int k n]:=rfl
@[go_sem] theorem yWy (b:Bool):(D.bool b).cells=[.bool b]:=rfl
@[go_sem] theorem xDr (s:List UInt8):(D.str s).cells=[.str s]:=rfl
@[go_sem] theorem yUd (t:Option Nat) (k:Nat) (es:List D):(D.slice t k es).cells=[.slice t k es]:=rfl
@[go_sem] theorem xDy :D.nil.cells=[.nil]:=rfl
@[go_sem] theorem xDx :D.opq.cells=[.opq]:=rfl
@[go_sem] theorem xDu (c:List D) (o:Nat):(D.ref c o).cells=[.ref c o]:=rfl
@[go_sem] theorem xDv (i o:Nat):(D.ptr i o).cells=[.ptr i o]:=rfl
@[go_sem] theorem yOu :D.nilptr.cells=[.nilptr]:=rfl
@[go_sem] theorem yWx (f:Nat) (c:List D):(D.func f c).cells=[.func f c]:=rfl
@[go_sem] theorem xQp (k:IntKind) (n:Int):(D.int k n).okC=true:=rfl
@[go_sem] theorem xFu (b:Bool):(D.bool b).okC=true:=rfl
@[go_sem] theorem xQh (s:List UInt8):(D.str s).okC=true:=rfl
@[go_sem] theorem xCo (t:Option Nat) (k:Nat) (es:List D):(D.slice t k es).okC=true:=rfl
@[go_sem] theorem xQo  : (D.nil).okC=true:=rfl
@[go_sem] theorem xQl (a b:Nat):(D.ptr a b).okC=true:=rfl
@[go_sem] theorem yWk  : (D.nilptr).okC=true:=rfl
@[go_sem] theorem xQk (c:List D) (o:Nat):(D.ref c o).okC=true:=rfl
@[go_sem] theorem xFt (f:Nat) (c:List D):(D.func f c).okC=true:=rfl
@[go_sem] theorem yTt  : (D.nilfunc).okC=true:=rfl
@[go_sem] theorem xQq (c:List D):(D.agg c).okC=true:=rfl
@[go_sem] theorem xCf (x:Operand):zT X m st (.move x)=some (ev X st x):=rfl
@[go_sem] theorem yTq (x:Operand):zT X m st (.assign x)=some (ev X st x):=rfl
@[go_sem] theorem xCe (c a b:Operand):zT X m st (.pick c a b)=yBt (ev X st c) (ev X st a) (ev X st b):=rfl
@[go_sem] theorem xCj (a b:D):yBt (.bool true) a b=some a:=rfl
@[go_sem] theorem yWi (a b:D):yBt (.bool false) a b=some b:=rfl
@[go_sem] theorem xCg (t:Nat) (p:Operand):zT X m st (.load t p)=match zEi X m st p with|some (cs,off)=>zGp X.P t cs off|none=>none:=rfl
@[go_sem] theorem xCi (sl lp bx) (m' m:Mem) (t:Nat):zEi X m ⟨sl,lp,bx,m'⟩ (.tmp t)=match lp t with
  |some (key,off)=>match bx key with|some cs=>some (cs,off)|none=>none
  |none=>zHm m (sl t):=rfl
@[go_sem] theorem yOj (st:St) (m:Mem) (g:Nat):zEi X m st (.global g)=zHm m (match X.G g with|some cs=>.ref cs 0|none=>.undef):=rfl
@[go_sem] theorem yWg (cs:List D) (o:Nat):zHm m (.ref cs o)=some (cs,o):=rfl
@[go_sem] theorem xRu (m:Mem) (id:Nat):uN m id=match m.boxes[id]? with
  |some cs=>(match wB cs with|true=>none|false=>some cs)
  |none=>none:=rfl
@[go_sem] theorem xCz :wB []=false:=rfl
@[go_sem] theorem xCy (d:D):wB [d]=d.isO:=rfl
@[go_sem] theorem xCx (a b:D) (r:List D):wB (a::b::r)=false:=rfl
section
variable (a b c e:Nat) (l r:List D)
@[go_sem] theorem xRi (k:IntKind) (n:Int):D.isO (.int k n)=false:=rfl
@[go_sem] theorem xGg (x:Bool):D.isO (.bool x)=false:=rfl
@[go_sem] theorem xRb (s:List UInt8):D.isO (.str s)=false:=rfl
@[go_sem] theorem xDa (t:Option Nat):D.isO (.slice t a l)=false:=rfl
@[go_sem] theorem xRg :D.isO .nil=false:=rfl
@[go_sem] theorem xRc :D.isO (.rsl a b c e)=false:=rfl
@[go_sem] theorem xRf :D.isO .opq=false:=rfl
@[go_sem] theorem xRe :D.isO (.ptr a b)=false:=rfl
@[go_sem] theorem yWp :D.isO .nilptr=false:=rfl
@[go_sem] theorem xRd :D.isO (.ref l a)=false:=rfl
@[go_sem] theorem xGf :D.isO (.func a l)=false:=rfl
@[go_sem] theorem yTv :D.isO .nilfunc=false:=rfl
@[go_sem] theorem xQz :D.isO (.yld a)=false:=rfl
@[go_sem] theorem xSz :D.isO (.mp a)=false:=rfl
@[go_sem] theorem xDb :D.isO .nilmp=false:=rfl
@[go_sem] theorem xRh :D.isO (.itr a)=false:=rfl
end
@[go_sem] theorem yWh (id o:Nat):zHm m (.ptr id o)=match uN m id with|some cs=>some (cs,o)|none=>none:=rfl
@[go_sem] theorem yMe (x:Operand):zT X m st (.nilCheck x)=match ev X st x with
  |.ptr a b=>some (.ptr a b)
  |.ref a b=>some (.ref a b)
  |.func a b=>some (.func a b)
  |_=>none:=rfl
@[go_sem] theorem xCd (op:UnOp) (t:Nat) (x:Operand):zT X m st (.unOp op t x)=unD op (ev X st x):=rfl
@[go_sem] theorem xSr (b:Bool):unD .not (.bool b)=some (.bool (!b)):=rfl
@[go_sem] theorem xSs (k:IntKind) (n:Int):unD .neg (.int k n)=some (.int k (k.wrap (0-n))):=rfl
@[go_sem] theorem xHl (k:IntKind) (a b:Int):zIr .add k a b=some (.int k (k.wrap (a+b))):=rfl
@[go_sem] theorem xHb (k:IntKind) (a b:Int):zIr .sub k a b=some (.int k (k.wrap (a-b))):=rfl
@[go_sem] theorem xHf (k:IntKind) (a b:Int):zIr .mul k a b=some (.int k (k.wrap (a*b))):=rfl
@[go_sem] theorem xHg (k:IntKind) (a b:Int):zIr .lss k a b=some (.bool (decide (a<b))):=rfl
@[go_sem] theorem xHh (k:IntKind) (a b:Int):zIr .leq k a b=some (.bool (decide (a<=b))):=rfl
@[go_sem] theorem xHi (k:IntKind) (a b:Int):zIr .gtr k a b=some (.bool (decide (b<a))):=rfl
@[go_sem] theorem xHj (k:IntKind) (a b:Int):zIr .geq k a b=some (.bool (decide (b<=a))):=rfl
@[go_sem] theorem xHk (k:IntKind) (a b:Int):zIr .eql k a b=some (.bool (a==b)):=rfl
@[go_sem] theorem xHe (k:IntKind) (a b:Int):zIr .neq k a b=some (.bool (a != b)):=rfl
@[go_sem] theorem yOw (P:Program) (t:Nat) (a b:Bool):zAa P t .eql (.bool a) (.bool b)=match eqD P t (.bool a) (.bool b) with|some b=>some (.bool b)|none=>none:=rfl
@[go_sem] theorem yOv (P:Program) (t:Nat) (a b:Bool):zAa P t .neq (.bool a) (.bool b)=match eqD P t (.bool a) (.bool b) with|some b=>some (.bool (!b))|none=>none:=rfl
@[go_sem] theorem yUo (P:Program) (t:Nat) (a b:List D):zAa P t .eql (.agg a) (.agg b)=match eqD P t (.agg a) (.agg b) with|some b=>some (.bool b)|none=>none:=rfl
@[go_sem] theorem yUn (P:Program) (t:Nat) (a b:List D):zAa P t .neq (.agg a) (.agg b)=match eqD P t (.agg a) (.agg b) with|some b=>some (.bool (!b))|none=>none:=rfl
@[go_sem] theorem yUl (P:Program) (t:Nat) (a:D):zAa P t .eql a .nil=match eqD P t a .nil with|some b=>some (.bool b)|none=>none:=by cases a<;>rfl
@[go_sem] theorem yUk (P:Program) (t:Nat) (a:D):zAa P t .neq a .nil=match eqD P t a .nil with|some b=>some (.bool (!b))|none=>none:=by cases a<;>rfl
@[go_sem] theorem xRr (P:Program) (t:Nat) (a b:List D):eqD P t (.agg a) (.agg b)=match zWe P t with|some gs=>eqT gs a b|none=>none:=rfl
@[go_sem] theorem xGs (P:Program) (t:Nat) (a b:Bool):eqD P t (.bool a) (.bool b)=bif zKk P t then some (a==b) else none:=rfl
@[go_sem] theorem yRv (P:Program) (t:Nat):eqD P t .nil .nil=match zI P t with|some _=>some true|none=>none:=rfl
@[go_sem] theorem yFy (P:Program) (t:Nat) (g:Option Nat) (k:Nat) (es:List D):eqD P t (.slice g k es) .nil=match zI P t with|some _=>some false|none=>none:=rfl
@[go_sem] theorem xRm :eqT [] [] []=some true:=rfl
@[go_sem] theorem xGp (g:Nat) (gs:List Nat) (a b:D) (x y:List D):eqT (g::gs) (a::x) (b::y)=match eqC g a b,eqT gs x y with|some p,some q=>some (p&&q)|_,_=>none:=rfl
@[go_sem] theorem xRt (a b:Int):eqC 0 (.int .i64 a) (.int .i64 b)=some (a==b):=rfl
@[go_sem] theorem xGt (a b:Bool):eqC 1 (.bool a) (.bool b)=some (a==b):=rfl
@[go_sem] theorem xRs (a b:List UInt8):eqC 2 (.str a) (.str b)=some (a==b):=rfl
@[go_sem] theorem yMf (f:Nat) (c:List Operand):zT X m st (.makeFunc (.func f) #[] c.toArray)=some (.func f (c.map (ev X st))):=rfl
@[go_sem] theorem yWb (t:Nat) (x:Operand) (i:Nat):zT X m st (.field t x i)=match zE X.P t i,zX X.P t i,ev X st x with
  |some off,some ft,.agg cs=>zGp X.P ft cs off
  |_,_,_=>none:=rfl
@[go_sem] theorem xDd (P:Program) (t:Nat) (cs:List D):zOf P t cs []=some cs:=rfl
@[go_sem] theorem yWq (P:Program) (t:Nat) (cs:List D) (i:Nat) (d:D) (r:List (Nat×D)):zOf P t cs ((i,d)::r)=match zE P t i,(zX P t i).bind (yS P) with
  |some off,some n=>bif d.okC&&decide (d.cells.length=n)&&decide (off+n<=cs.length) then zOf P t (setRow cs off d.cells) r else none
  |_,_=>none:=rfl
@[go_sem] theorem xDf (es:List D) (k:Nat):zOh es k []=some es:=rfl
@[go_sem] theorem yWs (es:List D) (k i:Nat) (d:D) (r:List (Nat×D)):zOh es k ((i,d)::r)=bif d.okC&&decide (d.cells.length=k)&&decide (i<es.length) then zOh (es.set i d) k r else none:=rfl
@[go_sem] theorem yVw (cs:List D) (o:Nat):setRow cs o []=cs:=rfl
@[go_sem] theorem yTn (cs:List D) (o:Nat) (d:D) (r:List D):setRow cs o (d::r)=setRow (cs.set o d) (o+1) r:=rfl
@[go_sem] theorem zYs (sl lp bx) (m' m:Mem) (t:Nat) (x i:Nat):zT X m ⟨sl,lp,bx,m'⟩ (.fieldAddr t (.tmp x) i)=match zE X.P t i,sl x with
  |some o,.ref cs off=>some (.ref cs (off+o))
  |some o,.ptr id off=>some (.ptr id (off+o))
  |_,_=>none:=rfl
@[go_sem] theorem yWa (t:Nat) (x i:Operand):zT X m st (.index t x i)=match ev X st x,ev X st i with
  |.str s,.int _ n=>bif wA X.P t then(match atI s n with
   |some b=>some (.int .u8 b.toNat)
   |none=>none) else none
  | .agg cs,.int _ n=>match vN X.P t with
   |some (len,e)=>match yS X.P e with
    |some k=>bif decide (0<=n)&&decide (n<len) then zGp X.P e cs (n.toNat*k) else none
    |none=>none
   |none=>none
  |_,_=>none:=rfl
@[go_sem] theorem xHm {β:Type} (l:List β) (n:Nat):atI l (n:Int)=l[n]?:=rfl
@[go_sem] theorem yOg (x:Operand) (i:Nat):zT X m st (.extract x i)=match ev X st x with
  |.tuple ds=>ds[i]?
  |_=>none:=rfl
@[go_sem] theorem yWo (k:IntKind) (n:Int):vC (.int k n)=decide (n=0):=rfl
@[go_sem] theorem xCl (z:Option Int):zMl X st z none=z:=rfl
@[go_sem] theorem xCk (z:Option Int) (x:Operand):zMl X st z (some x)=match ev X st x with|.int _ n=>some n|_=>none:=rfl
@[go_sem] theorem xFn (x:Operand) (t:Nat):zT X m st (.call { callee:=.builtin .len,args:=#[x],argTypes:=#[t] })=match lenT X.P t (ev X st x) with|some n=>some (.int .i64 n)|none=>none:=rfl
@[go_sem] theorem xCu (t:Option Nat) (k:Nat) (es:List D):xHs (.slice t k es)=some es.length:=rfl
@[go_sem] theorem xQv :xHs .nil=some 0:=rfl
@[go_sem] theorem xQu (s:List UInt8):xHs (.str s)=some s.length:=rfl
@[go_sem] theorem xFl (x:Operand) (r:List Operand) (ts:Array Nat):zT X m st (.call { callee:=.builtin .min,args:=(x::r).toArray,argTypes:=ts })=zYu true (ev X st x) (r.map (ev X st)):=rfl
@[go_sem] theorem xFm (x:Operand) (r:List Operand) (ts:Array Nat):zT X m st (.call { callee:=.builtin .max,args:=(x::r).toArray,argTypes:=ts })=zYu false (ev X st x) (r.map (ev X st)):=rfl
@[go_sem] theorem xFw (lo:Bool) (k:IntKind) (a:Int):zYu lo (.int k a) []=some (.int k a):=rfl
@[go_sem] theorem xCq (lo:Bool) (x y:D) (r:List D):zYu lo x (y::r)=match min2 lo x y with|some z=>zYu lo z r|none=>none:=rfl
@[go_sem] theorem xFx (a b:Int):min2 true (.int .i64 a) (.int .i64 b)=some (.int .i64 (if b<a then b else a)):=rfl
@[go_sem] theorem xFy (a b:Int):min2 false (.int .i64 a) (.int .i64 b)=some (.int .i64 (if b>a then b else a)):=rfl
@[go_sem] theorem xHd (k:IntKind) (a b:Int):zIr .quo k a b=bif b==0 then none else some (.int k (k.wrap (a.tdiv b))):=rfl
@[go_sem] theorem xHc (k:IntKind) (a b:Int):zIr .rem k a b=bif b==0 then none else some (.int k (a.tmod b)):=rfl
@[go_sem] theorem xEb (k:Nat) (m:Mem) (s:D):zZ k m s []=some (s,m):=rfl
@[go_sem] theorem yEd (k:Nat) (b:List (List D)) (t:List Nat) (x:D) (xs:List D):zZ k ⟨b,t⟩ .nil (x::xs)=some (.slice (some (t.length+1)) k (x::xs),⟨b,t++[(x::xs).length]⟩):=rfl
@[go_sem] theorem xHn (k k':Nat) (b:List (List D)) (t:List Nat) (es:List D) (x:D) (xs:List D):zZ k ⟨b,t⟩ (.slice (some 0) k' es) (x::xs)=bif decide (k=k') then some (.slice (some (t.length+1)) k (es++x::xs),⟨b,t++[(es++x::xs).length]⟩) else none:=rfl
@[go_sem] theorem ySp (k k' id:Nat) (b:List (List D)) (t:List Nat) (es:List D) (x:D) (xs:List D):zZ k ⟨b,t⟩ (.slice (some (id+1)) k' es) (x::xs)=match t[id]? with
   |some n=>bif decide (k=k')&&decide (n=es.length) then some (.slice (some (id+1)) k (es++x::xs),⟨b,t.set id (es++x::xs).length⟩) else none
   |none=>none:=rfl
@[go_sem] theorem xEw (P:Program) (t:Nat) (cs:List D) (off:Nat):zGp P t cs off=match isAgg P t with
 |some true=>(match yS P t with
  |some n=>bif decide (off+n<=cs.length) then some (.agg ((cs.drop off).take n)) else none
  |none=>none)
 |some false=>cs[off]?
 |none=>none:=rfl
@[go_sem] theorem xBg (all:List Oper) (K:St->Prop) (st:St):zEy X F C all [] K st=K st:=rfl
@[go_sem] theorem yUy (all:List Oper) (o:Oper) (r:List Oper) (K:St->Prop) (st:St):zEy X F C all (o::r) K st=opI X F C all o (zEy X F C all r K) st:=rfl
@[go_sem] theorem xCn (all:List Oper) (dst:Option Nat) (op:Op) (ty:Nat) (pos:String) (af:Array Edge) (K:St->Prop) (st:St) :
  opI X F C all ⟨dst,op,ty,pos,af,none⟩ K st=xE X F C ⟨dst,op,ty,pos,af,none⟩ K st:=rfl
theorem zRo (all:List Oper) (dst:Option Nat) (op:Op) (ty:Nat) (pos:String) (af:Array Edge) (j:Nat) (want:Bool) (K:St->Prop) (st:St) :
  opI X F C all ⟨dst,op,ty,pos,af,some (j,want)⟩ K st=match vE all st j with
  |some (some b)=>(match eqB want b with
   |true=>xE X F C ⟨dst,op,ty,pos,af,none⟩ K st
   |false=>K (st.put dst (.tuple [])))
  |some none=>K (st.put dst (.tuple []))
  |none=>False:=rfl
def goB (want:Bool):Option (Option Bool)->Bool
 |some (some b)=>eqB want b
 |_=>false
def skB (want:Bool):Option (Option Bool)->Bool
 |some (some b)=>!eqB want b
 |some none=>true
 |none=>false
@[go_sem] theorem xGn (w b:Bool):goB w (some (some b))=eqB w b:=rfl
@[go_sem] theorem xGo (w:Bool):goB w (some none)=false:=rfl
@[go_sem] theorem xFf (w b:Bool):skB w (some (some b)) = !eqB w b:=rfl
@[go_sem] theorem xFg (w:Bool):skB w (some none)=true:=rfl
@[go_sem] theorem xSx (all:List Oper) (dst:Option Nat) (op:Op) (ty:Nat) (pos:String) (af:Array Edge) (j:Nat) (want:Bool) (K:St->Prop) (st:St) (h:goB want (vE all st j)=true) :
  opI X F C all ⟨dst,op,ty,pos,af,some (j,want)⟩ K st=xE X F C ⟨dst,op,ty,pos,af,none⟩ K st:=by
 rw[zRo];revert h
 rcases vE all st j with _|_|b
 ·intro h;cases h
 ·intro h;cases h
 ·intro h;have h:eqB want b=true:=h;simp only[h]
@[go_sem] theorem xSw (all:List Oper) (dst:Option Nat) (op:Op) (ty:Nat) (pos:String) (af:Array Edge) (j:Nat) (want:Bool) (K:St->Prop) (st:St) (h:skB want (vE all st j)=true) :
  opI X F C all ⟨dst,op,ty,pos,af,some (j,want)⟩ K st=K (st.put dst (.tuple [])):=by
 rw[zRo];revert h
 rcases vE all st j with _|_|b
 ·intro h;cases h
 ·intro _;rfl
 ·intro h;have h:(!eqB want b)=true:=h;simp only[Bool.not_eq_true'] at h;simp only[h]
@[go_sem] theorem xBt (dst:Option Nat) (x:Operand) (ty:Nat) (pos:String) (af:Array Edge) (K:St->Prop) (st:St):xE X F C ⟨dst,.move x,ty,pos,af,none⟩ K st=match zT X st.m st (.move x) with|some d=>K (st.put dst d)|none=>False:=rfl
@[go_sem] theorem yTe (dst:Option Nat) (x:Operand) (ty:Nat) (pos:String) (af:Array Edge) (K:St->Prop) (st:St):xE X F C ⟨dst,.assign x,ty,pos,af,none⟩ K st=match zT X st.m st (.assign x) with|some d=>K (st.put dst d)|none=>False:=rfl
@[go_sem] theorem xBs (dst:Option Nat) (c a b:Operand) (ty:Nat) (pos:String) (af:Array Edge) (K:St->Prop) (st:St):xE X F C ⟨dst,.pick c a b,ty,pos,af,none⟩ K st=match zT X st.m st (.pick c a b) with|some d=>K (st.put dst d)|none=>False:=rfl
@[go_sem] theorem xBu (dst:Option Nat) (t:Nat) (p:Operand) (ty:Nat) (pos:String) (af:Array Edge) (K:St->Prop) (st:St):xE X F C ⟨dst,.load t p,ty,pos,af,none⟩ K st=match zT X st.m st (.load t p) with|some d=>K (st.put dst d)|none=>False:=rfl
@[go_sem] theorem yVo (dst:Option Nat) (op:BinOp) (t u:Nat) (x y:Operand) (ty:Nat) (pos:String) (af:Array Edge) (K:St->Prop) (st:St):xE X F C ⟨dst,.binOp op t x y u,ty,pos,af,none⟩ K st=match zT X st.m st (.binOp op t x y u) with|some d=>K (st.put dst d)|none=>False:=rfl
@[go_sem] theorem xBr (dst:Option Nat) (op:UnOp) (t:Nat) (x:Operand) (ty:Nat) (pos:String) (af:Array Edge) (K:St->Prop) (st:St):xE X F C ⟨dst,.unOp op t x,ty,pos,af,none⟩ K st=match zT X st.m st (.unOp op t x) with|some d=>K (st.put dst d)|none=>False:=rfl
@[go_sem] theorem yVl (dst:Option Nat) (t:Nat) (x:Operand) (i:Nat) (ty:Nat) (pos:String) (af:Array Edge) (K:St->Prop) (st:St):xE X F C ⟨dst,.field t x i,ty,pos,af,none⟩ K st=match zT X st.m st (.field t x i) with|some d=>K (st.put dst d)|none=>False:=rfl
@[go_sem] theorem yVn (dst:Option Nat) (t:Nat) (ps:Array (Nat×Operand)) (ty:Nat) (pos:String) (af:Array Edge) (K:St->Prop) (st:St):xE X F C ⟨dst,.build t ps,ty,pos,af,none⟩ K st=match zT X st.m st (.build t ps) with|some d=>K (st.put dst d)|none=>False:=rfl
@[go_sem] theorem yHk (dst:Option Nat) (t:Nat) (x i:Operand) (ty:Nat) (pos:String) (af:Array Edge) (K:St->Prop) (st:St):xE X F C ⟨dst,.indexAddr t x i,ty,pos,af,none⟩ K st=match zT X st.m st (.indexAddr t x i) with|some d=>K (st.put dst d)|none=>False:=rfl
@[go_sem] theorem yVk (dst:Option Nat) (t:Nat) (x i:Operand) (ty:Nat) (pos:String) (af:Array Edge) (K:St->Prop) (st:St):xE X F C ⟨dst,.index t x i,ty,pos,af,none⟩ K st=match zT X st.m st (.index t x i) with|some d=>K (st.put dst d)|none=>False:=rfl
@[go_sem] theorem yOb (dst:Option Nat) (x:Operand) (i:Nat) (ty:Nat) (pos:String) (af:Array Edge) (K:St->Prop) (st:St):xE X F C ⟨dst,.extract x i,ty,pos,af,none⟩ K st=match zT X st.m st (.extract x i) with|some d=>K (st.put dst d)|none=>False:=rfl
@[go_sem] theorem yVj (dst:Option Nat) (t:Nat) (x:Operand) (a b c:Option Operand) (ty:Nat) (pos:String) (af:Array Edge) (K:St->Prop) (st:St):xE X F C ⟨dst,.slice t x a b c,ty,pos,af,none⟩ K st=match zT X st.m st (.slice t x a b c) with|some d=>K (st.put dst d)|none=>False:=rfl
@[go_sem] theorem xEz (dst:Option Nat) (as:Array Operand) (ts:Array Nat) (ty:Nat) (pos:String) (af:Array Edge) (K:St->Prop) (st:St):xE X F C ⟨dst,.call ⟨.builtin .len,as,ts⟩,ty,pos,af,none⟩ K st=match zT X st.m st (.call ⟨.builtin .len,as,ts⟩) with|some d=>K (st.put dst d)|none=>False:=rfl
@[go_sem] theorem xEx (dst:Option Nat) (as:Array Operand) (ts:Array Nat) (ty:Nat) (pos:String) (af:Array Edge) (K:St->Prop) (st:St):xE X F C ⟨dst,.call ⟨.builtin .min,as,ts⟩,ty,pos,af,none⟩ K st=match zT X st.m st (.call ⟨.builtin .min,as,ts⟩) with|some d=>K (st.put dst d)|none=>False:=rfl
@[go_sem] theorem xEy (dst:Option Nat) (as:Array Operand) (ts:Array Nat) (ty:Nat) (pos:String) (af:Array Edge) (K:St->Prop) (st:St):xE X F C ⟨dst,.call ⟨.builtin .max,as,ts⟩,ty,pos,af,none⟩ K st=match zT X st.m st (.call ⟨.builtin .max,as,ts⟩) with|some d=>K (st.put dst d)|none=>False:=rfl
@[go_sem] theorem yGq (dst:Option Nat) (t n:Nat) (ps:Array (Nat×Operand)) (ty:Nat) (pos:String) (af:Array Edge) (K:St->Prop) (st:St):xE X F C ⟨dst,.buildSlice t n ps,ty,pos,af,none⟩ K st=match yBb X st (.buildSlice t n ps) with|some d=>K (st.put dst d)|none=>False:=rfl
@[go_sem] theorem step_alloc (x t:Nat) (ty:Nat) (pos:String) (af:Array Edge) (K:St->Prop) (st:St):xE X F C ⟨some x,.alloc t,ty,pos,af,none⟩ K st =
  match xA X.P t with|some z=>(match wX F.esc x with
  |true=>K ((st.put (some x) (.ptr st.m.boxes.length 0)).setM { st.m with boxes:=st.m.boxes++[z.cells] })
  |false=>K (st.newBox x z.cells))|none=>False:=rfl
@[go_sem] theorem xFa (x t:Nat) (v:Operand) (ty:Nat) (pos:String) (af:Array Edge) (K:St->Prop) (st:St):xE X F C ⟨some x,.box t v,ty,pos,af,none⟩ K st =
  match yS X.P t with
  | some n=>(match (ev X st v).okC&&decide ((ev X st v).cells.length=n) with
   |true=>(match wX F.esc x with
    |true=>K ((st.put (some x) (.ptr st.m.boxes.length 0)).setM { st.m with boxes:=st.m.boxes++[(ev X st v).cells] })
    |false=>K (st.newBox x (ev X st v).cells))
   |false=>False)
  |none=>False:=rfl
@[go_sem] theorem yVi (t x:Nat) (v:Operand) (ty:Nat) (pos:String) (af:Array Edge) (K:St->Prop) (sl lp bx) (m:Mem):xE X F C ⟨none,.store t (.tmp x) v,ty,pos,af,none⟩ K ⟨sl,lp,bx,m⟩ =
  match lp x with
  | some (key,off)=>(match bx key,yS X.P t with
   |some cs,some n=>(match (ev X ⟨sl,lp,bx,m⟩ v).okC&&decide ((ev X ⟨sl,lp,bx,m⟩ v).cells.length=n)&&decide (off+n<=cs.length) with
    |true=>K ⟨sl,lp,upd bx key (some (setRow cs off (ev X ⟨sl,lp,bx,m⟩ v).cells)),m⟩
    |false=>False)
   |_,_=>False)
  | none=>(match sl x with
   | .ptr id off=>(match uN m id,yS X.P t with
    |some cs,some n=>(match (ev X ⟨sl,lp,bx,m⟩ v).okC&&decide ((ev X ⟨sl,lp,bx,m⟩ v).cells.length=n)&&decide (off+n<=cs.length) with
     |true=>K ⟨sl,lp,bx,{ m with boxes:=m.boxes.set id (setRow cs off (ev X ⟨sl,lp,bx,m⟩ v).cells) }⟩
     |false=>False)
    |_,_=>False)
   |_=>False):=rfl
attribute [go_sem] ite_true ite_false if_true if_false List.getElem?_cons_zero List.getElem?_cons_succ List.drop_succ_cons List.drop_zero List.take_succ_cons List.take_zero List.length_cons List.length_nil decide_true decide_false cond_true cond_false Bool.and_true Bool.true_and Bool.not_true Bool.not_false List.set_cons_zero List.set_cons_succ List.nil_append List.cons_append List.append_nil List.map_cons List.map_nil Option.bind_some Option.map_some
@[go_sem] theorem xGu (b:Bool):eqB true b=b:=rfl
@[go_sem] theorem xDi (b:Bool):eqB false b = !b:=by cases b<;>rfl
@[go_sem] theorem yMa (dst:Option Nat) (p:Operand) (ty:Nat) (pos:String) (af:Array Edge) (K:St->Prop) (st:St):xE X F C ⟨dst,.nilCheck p,ty,pos,af,none⟩ K st =
  match wP st p with
  |some (key,off)=>(match dst with
   |some x=>K (st.putL x key off)
   |none=>K st)
  |none=>(match zT X st.m st (.nilCheck p) with|some d=>K (st.put dst d)|none=>False):=rfl
@[go_sem] theorem yHl (x t i:Nat) (p:Operand) (ty:Nat) (pos:String) (af:Array Edge) (K:St->Prop) (st:St):xE X F C ⟨some x,.fieldAddr t p i,ty,pos,af,none⟩ K st =
  match wP st p with
  |some (key,off)=>(match zE X.P t i with
   |some n=>K (st.putL x key (off+n))
   |none=>False)
  |none=>(match zT X st.m st (.fieldAddr t p i) with|some d=>K (st.put (some x) d)|none=>False):=by
 show (match wP st p with
  |some (key,off)=>match zE X.P t i,some x with
   |some n,some x=>K (st.putL x key (off+n))
   |_,_=>False
  |none=>zGs X _ K st)=_
 cases wP st p with
 |none=>rfl
 |some a=>cases zE X.P t i<;>rfl
@[go_sem] theorem xCc (sl lp bx) (m:Mem) (x:Nat):wP ⟨sl,lp,bx,m⟩ (.tmp x)=lp x:=rfl
@[go_sem] theorem yOf (st:St) (g:Nat):wP st (.global g)=none:=rfl
@[go_sem] theorem xDc (all:List Oper) (sl lp bx) (m:Mem) (j:Nat):vE all ⟨sl,lp,bx,m⟩ j=match zBk all 0 j with
 |some x=>zQl (sl x)
 |none=>none:=rfl
@[go_sem] theorem yTx (b:Bool):zQl (.bool b)=some (some b):=rfl
@[go_sem] theorem yTw :zQl (.tuple [])=some none:=rfl
@[go_sem] theorem yOp (o:Oper) (r:List Oper) (i j:Nat):zBk (o::r) i j=if i=j then o.dst else zBk r (i+1) j:=rfl
@[go_sem] theorem yVy (sl lp bx) (m:Mem) (t:Nat):zMw X ⟨sl,lp,bx,m⟩ (.tmp t)=some (sl t):=rfl
@[go_sem] theorem yTo (sl lp bx) (m:Mem) (p t:Nat):zMw X ⟨sl,lp,bx,m⟩ (.cell p t)=match zEi X m ⟨sl,lp,bx,m⟩ (.tmp p) with|some (cs,off)=>zGp X.P t cs off|none=>none:=rfl
@[go_sem] theorem xFi (st:St):yHu X st []=some []:=rfl
@[go_sem] theorem xCb (st:St) (r:ResultVar) (rs:List ResultVar):yHu X st (r::rs)=match zMw X st r,yHu X st rs with|some d,some ds=>some (d::ds)|_,_=>none:=rfl
@[go_sem] theorem xQc (st:St) (rs:List ResultVar):yGz X rs st=match yHu X st rs with|some [d]=>some d|some ds=>some (.tuple ds)|none=>none:=rfl
@[go_sem] theorem xGw (rs:List ResultVar) (Q:D->Mem->Prop) (st:St):xU X rs Q .ret st=match yGz X rs st with|some r=>Q r st.m|none=>False:=rfl
@[go_sem] theorem yTy (rs:List ResultVar) (Q:D->Mem->Prop) (st:St):xU X rs Q .normal st=match yGz X rs st with|some r=>Q r st.m|none=>False:=rfl
@[go_sem] theorem yOk (i:Nat):uW [] i=[]:=rfl
@[go_sem] theorem yMj (d:D) (r:List D) (i:Nat):uW (d::r) i=(i,d)::uW r (i+1):=rfl
@[go_sem] theorem xGv (ds:List D) (m:Mem):zIn ds m=⟨slL (uW ds 0),opL [],opL [],m⟩:=rfl
@[go_sem] theorem yUz (m0:Mem) (all:List Oper) (K:St->Prop) (st:St):zBw X F C m0 all [] K st=K st:=rfl
@[go_sem] theorem ySv (m0:Mem) (all:List Oper) (o:Oper) (r:List Oper) (K:St->Prop) (st:St):zBw X F C m0 all (o::r) K st=opN X F C m0 all o (zBw X F C m0 all r K) st:=rfl
@[go_sem] theorem xCm (m0:Mem) (all:List Oper) (dst:Option Nat) (op:Op) (ty:Nat) (pos:String) (af:Array Edge) (K:St->Prop) (st:St) :
  opN X F C m0 all ⟨dst,op,ty,pos,af,none⟩ K st=xY X F C m0 ⟨dst,op,ty,pos,af,none⟩ K st:=rfl
theorem zRn (m0:Mem) (all:List Oper) (dst:Option Nat) (op:Op) (ty:Nat) (pos:String) (af:Array Edge) (j:Nat) (want:Bool) (K:St->Prop) (st:St) :
  opN X F C m0 all ⟨dst,op,ty,pos,af,some (j,want)⟩ K st=match vE all st j with
  |some (some b)=>(match eqB want b with
   |true=>xY X F C m0 ⟨dst,op,ty,pos,af,none⟩ K st
   |false=>K (st.put dst (.tuple [])))
  |some none=>K (st.put dst (.tuple []))
  |none=>False:=rfl
@[go_sem] theorem xSv (m0:Mem) (all:List Oper) (dst:Option Nat) (op:Op) (ty:Nat) (pos:String) (af:Array Edge) (j:Nat) (want:Bool) (K:St->Prop) (st:St) (h:goB want (vE all st j)=true) :
  opN X F C m0 all ⟨dst,op,ty,pos,af,some (j,want)⟩ K st=xY X F C m0 ⟨dst,op,ty,pos,af,none⟩ K st:=by
 rw[zRn];revert h
 rcases vE all st j with _|_|b
 ·intro h;cases h
 ·intro h;cases h
 ·intro h;have h:eqB want b=true:=h;simp only[h]
@[go_sem] theorem xSu (m0:Mem) (all:List Oper) (dst:Option Nat) (op:Op) (ty:Nat) (pos:String) (af:Array Edge) (j:Nat) (want:Bool) (K:St->Prop) (st:St) (h:skB want (vE all st j)=true) :
  opN X F C m0 all ⟨dst,op,ty,pos,af,some (j,want)⟩ K st=K (st.put dst (.tuple [])):=by
 rw[zRn];revert h
 rcases vE all st j with _|_|b
 ·intro h;cases h
 ·intro _;rfl
 ·intro h;have h:(!eqB want b)=true:=h;simp only[Bool.not_eq_true'] at h;simp only[h]
@[go_sem] theorem yVr (m0:Mem) (dst:Option Nat) (x:Operand) (ty:Nat) (pos:String) (af:Array Edge) (K:St->Prop) (st:St):xY X F C m0 ⟨dst,.move x,ty,pos,af,none⟩ K st=match zT X m0 st (.move x) with|some d=>K (st.put dst d)|none=>False:=rfl
@[go_sem] theorem yOd (m0:Mem) (dst:Option Nat) (x:Operand) (ty:Nat) (pos:String) (af:Array Edge) (K:St->Prop) (st:St):xY X F C m0 ⟨dst,.assign x,ty,pos,af,none⟩ K st=match zT X m0 st (.assign x) with|some d=>K (st.put dst d)|none=>False:=rfl
@[go_sem] theorem yVq (m0:Mem) (dst:Option Nat) (c a b:Operand) (ty:Nat) (pos:String) (af:Array Edge) (K:St->Prop) (st:St):xY X F C m0 ⟨dst,.pick c a b,ty,pos,af,none⟩ K st=match zT X m0 st (.pick c a b) with|some d=>K (st.put dst d)|none=>False:=rfl
@[go_sem] theorem yVs (m0:Mem) (dst:Option Nat) (t:Nat) (p:Operand) (ty:Nat) (pos:String) (af:Array Edge) (K:St->Prop) (st:St):xY X F C m0 ⟨dst,.load t p,ty,pos,af,none⟩ K st=match qZ F st p with
  |true=>(match zT X m0 st (.load t p) with|some d=>K (st.put dst d)|none=>False)
  |false=>False:=rfl
@[go_sem] theorem yTl (m0:Mem) (dst:Option Nat) (op:BinOp) (t u:Nat) (x y:Operand) (ty:Nat) (pos:String) (af:Array Edge) (K:St->Prop) (st:St):xY X F C m0 ⟨dst,.binOp op t x y u,ty,pos,af,none⟩ K st=match zT X m0 st (.binOp op t x y u) with|some d=>K (st.put dst d)|none=>False:=rfl
@[go_sem] theorem yVp (m0:Mem) (dst:Option Nat) (op:UnOp) (t:Nat) (x:Operand) (ty:Nat) (pos:String) (af:Array Edge) (K:St->Prop) (st:St):xY X F C m0 ⟨dst,.unOp op t x,ty,pos,af,none⟩ K st=match zT X m0 st (.unOp op t x) with|some d=>K (st.put dst d)|none=>False:=rfl
@[go_sem] theorem yHn (m0:Mem) (dst:Option Nat) (f:Fn) (a b:Array Operand) (ty:Nat) (pos:String) (af:Array Edge) (K:St->Prop) (st:St):xY X F C m0 ⟨dst,.makeFunc f a b,ty,pos,af,none⟩ K st=match zT X m0 st (.makeFunc f a b) with|some d=>K (st.put dst d)|none=>False:=rfl
@[go_sem] theorem yTj (m0:Mem) (dst:Option Nat) (t:Nat) (x:Operand) (i:Nat) (ty:Nat) (pos:String) (af:Array Edge) (K:St->Prop) (st:St):xY X F C m0 ⟨dst,.field t x i,ty,pos,af,none⟩ K st=match zT X m0 st (.field t x i) with|some d=>K (st.put dst d)|none=>False:=rfl
@[go_sem] theorem yTk (m0:Mem) (dst:Option Nat) (t:Nat) (ps:Array (Nat×Operand)) (ty:Nat) (pos:String) (af:Array Edge) (K:St->Prop) (st:St):xY X F C m0 ⟨dst,.build t ps,ty,pos,af,none⟩ K st=match zT X m0 st (.build t ps) with|some d=>K (st.put dst d)|none=>False:=rfl
@[go_sem] theorem yGs (m0:Mem) (dst:Option Nat) (t:Nat) (x i:Operand) (ty:Nat) (pos:String) (af:Array Edge) (K:St->Prop) (st:St):xY X F C m0 ⟨dst,.indexAddr t x i,ty,pos,af,none⟩ K st=match zT X m0 st (.indexAddr t x i) with|some d=>K (st.put dst d)|none=>False:=rfl
@[go_sem] theorem yTi (m0:Mem) (dst:Option Nat) (t:Nat) (x i:Operand) (ty:Nat) (pos:String) (af:Array Edge) (K:St->Prop) (st:St):xY X F C m0 ⟨dst,.index t x i,ty,pos,af,none⟩ K st=match zT X m0 st (.index t x i) with|some d=>K (st.put dst d)|none=>False:=rfl
@[go_sem] theorem yMc (m0:Mem) (dst:Option Nat) (x:Operand) (i:Nat) (ty:Nat) (pos:String) (af:Array Edge) (K:St->Prop) (st:St):xY X F C m0 ⟨dst,.extract x i,ty,pos,af,none⟩ K st=match zT X m0 st (.extract x i) with|some d=>K (st.put dst d)|none=>False:=rfl
@[go_sem] theorem yTh (m0:Mem) (dst:Option Nat) (t:Nat) (x:Operand) (a b c:Option Operand) (ty:Nat) (pos:String) (af:Array Edge) (K:St->Prop) (st:St):xY X F C m0 ⟨dst,.slice t x a b c,ty,pos,af,none⟩ K st=match zT X m0 st (.slice t x a b c) with|some d=>K (st.put dst d)|none=>False:=rfl
@[go_sem] theorem xBz (m0:Mem) (dst:Option Nat) (as:Array Operand) (ts:Array Nat) (ty:Nat) (pos:String) (af:Array Edge) (K:St->Prop) (st:St):xY X F C m0 ⟨dst,.call ⟨.builtin .len,as,ts⟩,ty,pos,af,none⟩ K st=match zT X m0 st (.call ⟨.builtin .len,as,ts⟩) with|some d=>K (st.put dst d)|none=>False:=rfl
@[go_sem] theorem xBx (m0:Mem) (dst:Option Nat) (as:Array Operand) (ts:Array Nat) (ty:Nat) (pos:String) (af:Array Edge) (K:St->Prop) (st:St):xY X F C m0 ⟨dst,.call ⟨.builtin .min,as,ts⟩,ty,pos,af,none⟩ K st=match zT X m0 st (.call ⟨.builtin .min,as,ts⟩) with|some d=>K (st.put dst d)|none=>False:=rfl
@[go_sem] theorem xBy (m0:Mem) (dst:Option Nat) (as:Array Operand) (ts:Array Nat) (ty:Nat) (pos:String) (af:Array Edge) (K:St->Prop) (st:St):xY X F C m0 ⟨dst,.call ⟨.builtin .max,as,ts⟩,ty,pos,af,none⟩ K st=match zT X m0 st (.call ⟨.builtin .max,as,ts⟩) with|some d=>K (st.put dst d)|none=>False:=rfl
@[go_sem] theorem yBj (m0:Mem) (dst:Option Nat) (t n:Nat) (ps:Array (Nat×Operand)) (ty:Nat) (pos:String) (af:Array Edge) (K:St->Prop) (st:St):xY X F C m0 ⟨dst,.buildSlice t n ps,ty,pos,af,none⟩ K st=match yBb X st (.buildSlice t n ps) with|some d=>K (st.put dst d)|none=>False:=rfl
@[go_sem] theorem xGh (F:Fi) (x:Nat):zTd F (.tmp x)=wX F.mks x:=rfl
@[go_sem] theorem xRj (F:Fi) (m0:Mem) (p:Operand) (id:Nat):yBp F m0 p id=bif zTd F p then !inM m0 id else inM m0 id:=rfl
@[go_sem] theorem xTa (m:Mem) (id:Nat):inM m id=match m.boxes[id]? with|some _=>true|none=>false:=rfl
@[go_sem] theorem yTg (m0:Mem) (t:Nat) (p v:Operand) (ty:Nat) (pos:String) (af:Array Edge) (K:St->Prop) (sl lp bx) (m:Mem):xY X F C m0 ⟨none,.store t p v,ty,pos,af,none⟩ K ⟨sl,lp,bx,m⟩ =
  match qZ F ⟨sl,lp,bx,m⟩ p with
  | true=>(match wP ⟨sl,lp,bx,m⟩ p with
   | some (key,off)=>(match bx key,yS X.P t with
    |some cs,some n=>(match !zTd F p&&((ev X ⟨sl,lp,bx,m⟩ v).okC&&decide ((ev X ⟨sl,lp,bx,m⟩ v).cells.length=n)&&decide (off+n<=cs.length)) with
     |true=>K ⟨sl,lp,upd bx key (some (setRow cs off (ev X ⟨sl,lp,bx,m⟩ v).cells)),m⟩
     |false=>False)
    |_,_=>False)
   | none=>(match ev X ⟨sl,lp,bx,m⟩ p with
    | .ptr id off=>(match uN m id,yS X.P t with
     |some cs,some n=>(match yBp F m0 p id&&((ev X ⟨sl,lp,bx,m⟩ v).okC&&decide ((ev X ⟨sl,lp,bx,m⟩ v).cells.length=n)&&decide (off+n<=cs.length)) with
      |true=>K ⟨sl,lp,bx,{ m with boxes:=m.boxes.set id (setRow cs off (ev X ⟨sl,lp,bx,m⟩ v).cells) }⟩
      |false=>False)
     |_,_=>False)
    |_=>False))
  |false=>False:=rfl
@[go_sem] theorem yHm (m0:Mem) (dst:Option Nat) (p:Operand) (ty:Nat) (pos:String) (af:Array Edge) (K:St->Prop) (st:St):xY X F C m0 ⟨dst,.nilCheck p,ty,pos,af,none⟩ K st =
  match wP st p with
  |some (key,off)=>(match dst with
   |some x=>K (st.putL x key off)
   |none=>K st)
  |none=>(match zT X m0 st (.nilCheck p) with|some d=>K (st.put dst d)|none=>False):=rfl
@[go_sem] theorem yGt (m0:Mem) (x t i:Nat) (p:Operand) (ty:Nat) (pos:String) (af:Array Edge) (K:St->Prop) (st:St):xY X F C m0 ⟨some x,.fieldAddr t p i,ty,pos,af,none⟩ K st =
  match wP st p with
  |some (key,off)=>(match zE X.P t i with
   |some n=>K (st.putL x key (off+n))
   |none=>False)
  |none=>(match zT X m0 st (.fieldAddr t p i) with|some d=>K (st.put (some x) d)|none=>False):=by
 show (match wP st p with
  |some (key,off)=>match zE X.P t i,some x with
   |some n,some x=>K (st.putL x key (off+n))
   |_,_=>False
  |none=>zGq X m0 _ K st)=_
 cases wP st p with
 |none=>rfl
 |some a=>cases zE X.P t i<;>rfl
def zQf (P:Program) (t:Nat) (a i:D):Option D:=match a,i with
  | .slice _ k es,.int _ n=>match zN P t with
   |some k'=>bif decide (k'=k) then(match atI es n with
    |some d=>some (.ref d.cells 0)
    |none=>none) else none
   |none=>none
  |.rsl id off len k,.int _ n=>match zN P t with
   |some k'=>bif decide (k'=k)&&decide (0<=n)&&decide (n<len) then some (.ptr id (off+n.toNat*k)) else none
   |none=>none
  | .ref cs off,.int _ n=>match vN P t with
   |some (len,e)=>match yS P e with
    |some k=>bif decide (0<=n)&&decide (n<len) then some (.ref cs (off+n.toNat*k)) else none
    |none=>none
   |none=>none
  | .ptr id off,.int _ n=>match vN P t with
   |some (len,e)=>match yS P e with
    |some k=>bif decide (0<=n)&&decide (n<len) then some (.ptr id (off+n.toNat*k)) else none
    |none=>none
   |none=>none
  |_,_=>none
@[go_sem] theorem yHp (t:Nat) (x i:Operand):zT X m st (.indexAddr t x i)=zQf X.P t (ev X st x) (ev X st i):=by
 simp only[zT];unfold zQf;generalize ev X st x=a;generalize ev X st i=b
 cases a<;>first|rfl|(cases b<;>rfl)
@[go_sem] theorem qO (P:Program) (t:Nat) (g:Option Nat) (k:Nat) (es:List D) (kk:IntKind) (n:Int):zQf P t (.slice g k es) (.int kk n)=match zN P t with
   |some k'=>bif decide (k'=k) then(match atI es n with
    |some d=>some (.ref d.cells 0)
    |none=>none) else none
   |none=>none:=rfl
@[go_sem] theorem xGi (P:Program) (t:Nat) (id off len k:Nat) (kk:IntKind) (n:Int):zQf P t (.rsl id off len k) (.int kk n)=match zN P t with
   |some k'=>bif decide (k'=k)&&decide (0<=n)&&decide (n<len) then some (.ptr id (off+n.toNat*k)) else none
   |none=>none:=rfl
@[go_sem] theorem xGk (P:Program) (t:Nat) (id off:Nat) (kk:IntKind) (n:Int):zQf P t (.ptr id off) (.int kk n)=match vN P t with
   |some (len,e)=>match yS P e with
    |some k=>bif decide (0<=n)&&decide (n<len) then some (.ptr id (off+n.toNat*k)) else none
    |none=>none
   |none=>none:=rfl
@[go_sem] theorem xGj (P:Program) (t:Nat) (cs:List D) (off:Nat) (kk:IntKind) (n:Int):zQf P t (.ref cs off) (.int kk n)=match vN P t with
   |some (len,e)=>match yS P e with
    |some k=>bif decide (0<=n)&&decide (n<len) then some (.ref cs (off+n.toNat*k)) else none
    |none=>none
   |none=>none:=rfl
def yUr (P:Program) (t:Nat) (a:D) (l:Option Int) (h:Int->Option Int):Option D:=match a with
  |.str s=>match wA P t,l,h s.length with
   |true,some l,some h=>zFh s l h
   |_,_,_=>none
  |.slice _ k es=>match zN P t,l,h es.length with
   |some k',some l,some h=>bif decide (k'=k) then zKc k es l h else none
   |_,_,_=>none
  |.rsl id off len k=>match zN P t,l,h len with
   |some k',some l,some h=>bif decide (k'=k) then zQj id off len k l h else none
   |_,_,_=>none
  |.nil=>match zN P t,l,h 0 with
   |some _,some l,some h=>bif decide (l=0)&&decide (h=0) then some .nil else none
   |_,_,_=>none
  |_=>none
@[go_sem] theorem yVz (t:Nat) (x:Operand) (low high:Option Operand):zT X m st (.slice t x low high none)=yUr X.P t (ev X st x) (zMl X st (some 0) low) (λz=>zMl X st (some z) high):=by
 simp only[zT];unfold yUr;generalize ev X st x=a
 cases a<;>rfl
@[go_sem] theorem xFb (P:Program) (t:Nat) (s:List UInt8) (l:Option Int) (h:Int->Option Int):yUr P t (.str s) l h=match wA P t,l,h s.length with
   |true,some l,some h=>zFh s l h
   |_,_,_=>none:=rfl
@[go_sem] theorem yVv (P:Program) (t:Nat) (g:Option Nat) (k:Nat) (es:List D) (l:Option Int) (h:Int->Option Int):yUr P t (.slice g k es) l h=match zN P t,l,h es.length with
   |some k',some l,some h=>bif decide (k'=k) then zKc k es l h else none
   |_,_,_=>none:=rfl
@[go_sem] theorem yTp (t:Nat) (x h k:Operand):zT X m st (.slice t x none (some h) (some k))=match ev X st x with
  |.slice _ _ _=>(match zN X.P t with
   |some kk=>bif vC (ev X st h)&&vC (ev X st k) then some (.slice (some 0) kk []) else none
   |none=>none)
  |.rsl _ _ _ _=>(match zN X.P t with
   |some kk=>bif vC (ev X st h)&&vC (ev X st k) then some (.slice (some 0) kk []) else none
   |none=>none)
  |.nil=>(match zN X.P t with
   |some _=>bif vC (ev X st h)&&vC (ev X st k) then some .nil else none
   |none=>none)
  |_=>none:=rfl
@[go_sem] theorem qN (P:Program) (u:Nat) (t:Option Nat) (k:Nat) (es:List D):lenT P u (.slice t k es)=match zI P u with|some _=>some es.length|none=>none:=rfl
@[go_sem] theorem xGd (P:Program) (u a b n k:Nat):lenT P u (.rsl a b n k)=match zI P u with|some _=>some n|none=>none:=rfl
@[go_sem] theorem zDl (P:Program) (u:Nat):lenT P u .nil=match zI P u with|some _=>some 0|none=>none:=rfl
@[go_sem] theorem xGc (P:Program) (u:Nat) (s:List UInt8):lenT P u (.str s)=match wA P u with|true=>some s.length|false=>none:=rfl
@[go_sem] theorem yOh (s d:Nat) (x:Operand):zT X m st (.convert s d x)=match xB X.P s&&wA X.P d with
  |true=>zIl m (ev X st x)
  |false=>(match zIm X.P s,zIm X.P d,ev X st x with
   |some _,some k,.int _ n=>some (.int k (k.wrap n))
   |_,_,_=>none):=rfl
@[go_sem] theorem yWd (op:BinOp) (t u:Nat) (x y:Operand):zT X m st (.binOp op t x y u)=zAa X.P t op (ev X st x) (ev X st y):=rfl
@[go_sem] theorem xSc (P:Program) (t:Nat) (k:IntKind) (a b:Int):zAa P t .lss (.int k a) (.int k b)=some (.bool (decide (a<b))):=by simp[zAa,zIr]
@[go_sem] theorem xSd (P:Program) (t:Nat) (k:IntKind) (a b:Int):zAa P t .leq (.int k a) (.int k b)=some (.bool (decide (a<=b))):=by simp[zAa,zIr]
@[go_sem] theorem xSe (P:Program) (t:Nat) (k:IntKind) (a b:Int):zAa P t .gtr (.int k a) (.int k b)=some (.bool (decide (b<a))):=by simp[zAa,zIr]
@[go_sem] theorem xSf (P:Program) (t:Nat) (k:IntKind) (a b:Int):zAa P t .geq (.int k a) (.int k b)=some (.bool (decide (b<=a))):=by simp[zAa,zIr]
@[go_sem] theorem xSg (P:Program) (t:Nat) (k:IntKind) (a b:Int):zAa P t .eql (.int k a) (.int k b)=some (.bool (a==b)):=by simp[zAa,zIr]
@[go_sem] theorem xSa (P:Program) (t:Nat) (k:IntKind) (a b:Int):zAa P t .neq (.int k a) (.int k b)=some (.bool (a != b)):=by simp[zAa,zIr]
@[go_sem] theorem xSh (P:Program) (t:Nat) (k:IntKind) (a b:Int):zAa P t .add (.int k a) (.int k b)=some (.int k (k.wrap (a+b))):=by simp[zAa,zIr]
@[go_sem] theorem xRw (P:Program) (t:Nat) (k:IntKind) (a b:Int):zAa P t .sub (.int k a) (.int k b)=some (.int k (k.wrap (a-b))):=by simp[zAa,zIr]
@[go_sem] theorem xSb (P:Program) (t:Nat) (k:IntKind) (a b:Int):zAa P t .mul (.int k a) (.int k b)=some (.int k (k.wrap (a*b))):=by simp[zAa,zIr]
@[go_sem] theorem xRz (P:Program) (t:Nat) (k:IntKind) (a b:Int):zAa P t .quo (.int k a) (.int k b)=bif b==0 then none else some (.int k (k.wrap (a.tdiv b))):=by simp[zAa,zIr]
@[go_sem] theorem yUi (P:Program) (t:Nat) (a b:List UInt8):zAa P t .eql (.str a) (.str b)=some (.bool (a==b)):=rfl
@[go_sem] theorem yUf (P:Program) (t:Nat) (a b:List UInt8):zAa P t .leq (.str a) (.str b)=some (.bool (Op.bytesLess a b||a==b)):=rfl
@[go_sem] theorem yUg (P:Program) (t:Nat) (a b:List UInt8):zAa P t .gtr (.str a) (.str b)=some (.bool (!(Op.bytesLess a b||a==b))):=rfl
@[go_sem] theorem yUh (P:Program) (t:Nat) (a b:List UInt8):zAa P t .geq (.str a) (.str b)=some (.bool (!Op.bytesLess a b)):=rfl
@[go_sem] theorem yUe (P:Program) (t:Nat) (a b:List UInt8):zAa P t .neq (.str a) (.str b)=some (.bool (!(a==b))):=rfl
@[go_sem] theorem yUj (P:Program) (t:Nat) (a b:List UInt8):zAa P t .add (.str a) (.str b)=bif decide (a.length+b.length<=140737488355328) then some (.str (a++b)) else none:=rfl
@[go_sem] theorem yWc (t:Nat) (l:List (Nat×Operand)):zT X m st (.build t l.toArray)=match yQ X.P t,xA X.P t with
  |true,some (.agg z)=>(match zOf X.P t z (wH X st l) with|some cs=>some (.agg cs)|none=>none)
  | false,some (.agg z)=>(match vN X.P t with
   |some (_,e)=>(match yS X.P e with
    |some k=>(match zOg k z (wH X st l) with|some cs=>some (.agg cs)|none=>none)
    |none=>none)
   |none=>none)
  |_,_=>none:=rfl
@[go_sem] theorem xDe (k:Nat) (cs:List D):zOg k cs []=some cs:=rfl
@[go_sem] theorem yWr (k:Nat) (cs:List D) (i:Nat) (d:D) (r:List (Nat×D)):zOg k cs ((i,d)::r)=bif d.okC&&decide (d.cells.length=k)&&decide (i*k+k<=cs.length) then zOg k (setRow cs (i*k) d.cells) r else none:=rfl
@[go_sem] theorem yTu (bx:Bool) (s x:Operand) (t u:Nat):wO X bx m st (.call { callee:=.builtin .append,args:=#[s,x],argTypes:=#[t,u] })=match zI X.P t,zN X.P t with
   |some e,some k=>match yV X.P e,wK X.P e k,zJs X.P m u k (ev X st x),zY m k (ev X st s) with
    |true,true,some xs,some es=>bif decide (es.length+xs.length<=16777216) then(match bx with|true=>vX k m (ev X st s) es xs|false=>zZ k m (ev X st s) xs) else none
    |_,_,_,_=>none
   |_,_=>none:=rfl
@[go_sem] theorem xDp (P:Program) (m:Mem) (u k:Nat) (d:D):zJs P m u k d=match zN P u with
 |some k'=>bif decide (k'=k) then zY m k d else none
 |none=>(match d with
  |.str s=>bif wA P u&&decide (k=1) then some (s.map yT) else none
  |_=>none):=rfl
@[go_sem] theorem yHo (t len:Nat) (l:List (Nat×Operand)):yBb X st (.buildSlice t len l.toArray)=match zI X.P t with
  | some e=>match yS X.P e,yV X.P e,xA X.P e with
   |some k,true,some z=>bif z.okC&&decide (z.cells.length=k)&&decide (len*k<=16777216) then(match zOh (List.replicate len z) k (wH X st l) with
    |some es=>some (.slice (some 0) k es)
    |none=>none) else none
   |_,_,_=>none
  |none=>none:=rfl
@[go_sem] theorem yTz (m:Mem) (k:Nat) (t:Option Nat) (k':Nat) (es:List D):zY m k (.slice t k' es)=bif decide (k'=k) then some es else none:=rfl
@[go_sem] theorem xDn (m:Mem) (k:Nat):zY m k .nil=some []:=rfl
@[go_sem] theorem xDl (m:Mem) (k id off len k':Nat):zY m k (.rsl id off len k')=bif decide (k'=k) then qG m id off len k else none:=rfl
@[go_sem] theorem xFv (x:Nat):mkB F (some x)=wX F.mks x:=rfl
@[go_sem] theorem xQn  : (D.opq).okC=true:=rfl
@[go_sem] theorem xQj (a b c d:Nat):(D.rsl a b c d).okC=true:=rfl
@[go_sem] theorem xDt (a b c d:Nat):(D.rsl a b c d).cells=[.rsl a b c d]:=rfl
section
variable {f:Nat->Nat->Nat->Nat->D}
@[go_sem] theorem xBo (d:D):strip d=zF noR d:=rfl
@[go_sem] theorem yVe (l:List D):zH l=zC noR l:=rfl
@[go_sem] theorem zUd (m:Mem) (d:D):frz m d=zF (vM m m.boxes.length) d:=rfl
@[go_sem] theorem yVh (k:IntKind) (n:Int):zF f (.int k n)=.int k n:=rfl
@[go_sem] theorem yTd (b:Bool):zF f (.bool b)=.bool b:=rfl
@[go_sem] theorem yVg (s:List UInt8):zF f (.str s)=.str s:=rfl
@[go_sem] theorem yY (t:Option Nat) (k:Nat) (es:List D):zF f (.slice t k es)=.slice none k (zC f es):=rfl
@[go_sem] theorem zDu (a b c d:Nat):zF f (.rsl a b c d)=f a b c d:=rfl
@[go_sem] theorem zZo :zF f .nil=.nil:=rfl
@[go_sem] theorem zDv (cs:List D):zF f (.agg cs)=.agg (zC f cs):=rfl
@[go_sem] theorem yOa (cs:List D):zF f (.tuple cs)=.tuple (zC f cs):=rfl
@[go_sem] theorem zBd (cs:List D) (o:Nat):zF f (.ref cs o)=.ref (zC f cs) o:=rfl
@[go_sem] theorem zBe (a b:Nat):zF f (.ptr a b)=f a b 0 0:=rfl
@[go_sem] theorem yVf (a:Nat):zF f (.yld a)=.opq:=rfl
@[go_sem] theorem zLn (g:Nat) (cs:List D):zF f (.func g cs)=.func g (zC f cs):=rfl
@[go_sem] theorem yF :zC f []=[]:=rfl
@[go_sem] theorem zR (d:D) (r:List D):zC f (d::r)=zF f d::zC f r:=rfl
end
@[go_sem] theorem yOc (dst:Option Nat) (a b:Nat) (x:Operand) (ty:Nat) (pos:String) (af:Array Edge) (K:St->Prop) (st:St):xE X F C ⟨dst,.convert a b x,ty,pos,af,none⟩ K st=match wA X.P a&&xB X.P b with
  |true=>zBi X F ⟨dst,.convert a b x,ty,pos,af,none⟩ K st
  |false=>(match zT X st.m st (.convert a b x) with|some d=>K (st.put dst d)|none=>False):=rfl
@[go_sem] theorem yMd (m0:Mem) (dst:Option Nat) (a b:Nat) (x:Operand) (ty:Nat) (pos:String) (af:Array Edge) (K:St->Prop) (st:St):xY X F C m0 ⟨dst,.convert a b x,ty,pos,af,none⟩ K st=match wA X.P a&&xB X.P b with
  |true=>zBi X F ⟨dst,.convert a b x,ty,pos,af,none⟩ K st
  |false=>(match zT X m0 st (.convert a b x) with|some d=>K (st.put dst d)|none=>False):=rfl
@[go_sem] theorem xGa (o:Oper) (K:St->Prop) (st:St):zBi X F o K st=match wO X (mkB F o.dst) st.m st o.op with|some (d,m)=>K ((st.put o.dst d).setM m)|none=>False:=rfl
@[go_sem] theorem yMb (dst:Option Nat) (f:Fn) (a:Array Operand) (b:List Operand) (ty:Nat) (pos:String) (af:Array Edge) (K:St->Prop) (st:St):xE X F C ⟨dst,.makeFunc f a b.toArray,ty,pos,af,none⟩ K st=match zT X (uV st b).m (uV st b) (.makeFunc f a b.toArray) with|some d=>K ((uV st b).put dst d)|none=>False:=rfl
@[go_sem] theorem yOi (st:St):uV st []=st:=rfl
@[go_sem] theorem yMg (st:St) (x:Operand) (r:List Operand):uV st (x::r)=uV (zFi st (wP st x)) r:=rfl
@[go_sem] theorem yMh (st:St) (k o:Nat):zFi st (some (k,o))=zKg st k:=rfl
@[go_sem] theorem yMi (st:St):zFi st none=st:=rfl
@[go_sem] theorem yWf (sl lp bx) (m:Mem) (k:Nat):zKg ⟨sl,lp,bx,m⟩ k=match bx k with
 |some cs=>⟨prS sl lp k m.boxes.length,zGz k lp,upd bx k none,{ m with boxes:=m.boxes++[cs] }⟩
 |none=>⟨sl,lp,bx,m⟩:=rfl
@[go_sem] theorem xSt (sl:Nat->D) (lp:Nat->Option (Nat×Nat)) (k id y:Nat):prS sl lp k id y=match lp y with
 |some (k',o)=>if k'=k then .ptr id o else sl y
 |none=>sl y:=rfl
@[go_sem] theorem yTf (dst:Option Nat) (as:Array Operand) (ts:Array Nat) (ty:Nat) (pos:String) (af:Array Edge) (K:St->Prop) (st:St):xE X F C ⟨dst,.call ⟨.builtin .append,as,ts⟩,ty,pos,af,none⟩ K st=match wO X (mkB F dst) st.m st (.call ⟨.builtin .append,as,ts⟩) with|some (d,m)=>K ((st.put dst d).setM m)|none=>False:=rfl
@[go_sem] theorem yOe (m0:Mem) (dst:Option Nat) (as:Array Operand) (ts:Array Nat) (ty:Nat) (pos:String) (af:Array Edge) (K:St->Prop) (st:St):xY X F C m0 ⟨dst,.call ⟨.builtin .append,as,ts⟩,ty,pos,af,none⟩ K st=match wO X (mkB F dst) st.m st (.call ⟨.builtin .append,as,ts⟩) with|some (d,m)=>K ((st.put dst d).setM m)|none=>False:=rfl
@[go_sem] theorem yHj (dst:Option Nat) (t:Nat) (a b:Operand) (ty:Nat) (pos:String) (af:Array Edge) (K:St->Prop) (st:St):xE X F C ⟨dst,.makeSlice t a b,ty,pos,af,none⟩ K st=match wO X (mkB F dst) st.m st (.makeSlice t a b) with|some (d,m)=>K ((st.put dst d).setM m)|none=>False:=rfl
@[go_sem] theorem xBw (dst:Option Nat) (f:Operand) (as:List Operand) (ts:Array Nat) (ty:Nat) (pos:String) (af:Array Edge) (K:St->Prop) (st:St):xE X F C ⟨dst,.call ⟨.value f,as.toArray,ts⟩,ty,pos,af,none⟩ K st =
  match ev X st f with
  |.func g cap=>(match decide (g<100000) with
   |true=>C.run (ix F dst g) st.m (vB X st as++cap) λr m=>K ((st.put dst r).setM m)
   |false=>False)
  |.yld id=>C.run (qQ+id) st.m (vB X st as) λr m=>K ((st.put dst r).setM m)
  |_=>False:=rfl
@[go_sem] theorem xQx (x g:Nat):ix F (some x) g=match opL F.alt x with|some v=>g+yMr v|none=>g:=rfl
@[go_sem] theorem xTj :yMr 1=100000:=rfl
@[go_sem] theorem xTi :yMr 2=200000:=rfl
@[go_sem] theorem xTh :yMr 3=300000:=rfl
@[go_sem] theorem xQy (g:Nat):ix F none g=g:=rfl
@[go_sem] theorem yVu (m0:Mem) (dst:Option Nat) (f:Operand) (as:List Operand) (ts:Array Nat) (ty:Nat) (pos:String) (af:Array Edge) (K:St->Prop) (st:St):xY X F C m0 ⟨dst,.call ⟨.value f,as.toArray,ts⟩,ty,pos,af,none⟩ K st =
  match zCm C.pf F dst f with
  |some g=>(match C.pv g (vB X st as) with
   |some d=>K (st.put dst d)
   |none=>False)
  | none=>(match ev X st f with
   |.func g cap=>(match decide (g<100000) with
    |true=>zJi C m0 (mkB F dst) (ix F dst g) (vB X st as++cap) dst K st
    |false=>False)
   |.yld id=>zJi C m0 (mkB F dst) (qQ+id) (vB X st as) dst K st
   |_=>False):=rfl
@[go_sem] theorem xBv (dst:Option Nat) (as:Array Operand) (ts:Array Nat) (ty:Nat) (pos:String) (af:Array Edge) (K:St->Prop) (st:St):xE X F C ⟨dst,.call ⟨.builtin .copy,as,ts⟩,ty,pos,af,none⟩ K st=match wO X (mkB F dst) st.m st (.call ⟨.builtin .copy,as,ts⟩) with|some (d,m)=>K ((st.put dst d).setM m)|none=>False:=rfl
@[go_sem] theorem yVt (m0:Mem) (dst:Option Nat) (as:Array Operand) (ts:Array Nat) (ty:Nat) (pos:String) (af:Array Edge) (K:St->Prop) (st:St):xY X F C m0 ⟨dst,.call ⟨.builtin .copy,as,ts⟩,ty,pos,af,none⟩ K st=match wO X (mkB F dst) st.m st (.call ⟨.builtin .copy,as,ts⟩) with|some (d,m)=>K ((st.put dst d).setM m)|none=>False:=rfl
@[go_sem] theorem yVm (dst:Option Nat) (as:Array Operand) (ts:Array Nat) (ty:Nat) (pos:String) (af:Array Edge) (K:St->Prop) (st:St):xE X F C ⟨dst,.call ⟨.builtin .clear,as,ts⟩,ty,pos,af,none⟩ K st=match wO X (mkB F dst) st.m st (.call ⟨.builtin .clear,as,ts⟩) with|some (d,m)=>K ((st.put dst d).setM m)|none=>False:=rfl
@[go_sem] theorem xCs (bx:Bool) (m:Mem) (st:St) (d s:Operand) (t u:Nat):wO X bx m st (.call ⟨.builtin .copy,[d,s].toArray,[t,u].toArray⟩)=yCa X.P m t (ev X st d) (ev X st s):=rfl
@[go_sem] theorem yWl (bx:Bool) (m:Mem) (st:St) (d:Operand) (t:Nat):wO X bx m st (.call ⟨.builtin .clear,[d].toArray,[t].toArray⟩)=yCp X.P m t (ev X st d):=rfl
@[go_sem] theorem yHs (P:Program) (t:Nat) (a:D):zAa P t .eql a .nilptr=match eqD P t a .nilptr with|some b=>some (.bool b)|none=>none:=by cases a<;>rfl
@[go_sem] theorem yHr (P:Program) (t:Nat) (a:D):zAa P t .neq a .nilptr=match eqD P t a .nilptr with|some b=>some (.bool (!b))|none=>none:=by cases a<;>rfl
@[go_sem] theorem yGv (P:Program) (t:Nat) (a:D):zAa P t .eql a .nilfunc=match eqD P t a .nilfunc with|some b=>some (.bool b)|none=>none:=by cases a<;>rfl
@[go_sem] theorem yGu (P:Program) (t:Nat) (a:D):zAa P t .neq a .nilfunc=match eqD P t a .nilfunc with|some b=>some (.bool (!b))|none=>none:=by cases a<;>rfl
@[go_sem] theorem xTf (P:Program) (t:Nat):eqD P t .nilptr .nilptr=zVq P t 1 true:=rfl
@[go_sem] theorem xRp (P:Program) (t a b:Nat):eqD P t (.ptr a b) .nilptr=zVq P t 1 false:=rfl
@[go_sem] theorem xRo (P:Program) (t a:Nat) (l:List D):eqD P t (.ref l a) .nilptr=zVq P t 1 false:=rfl
@[go_sem] theorem xTg (P:Program) (t:Nat):eqD P t .nilfunc .nilfunc=zVq P t 2 true:=rfl
@[go_sem] theorem xRq (P:Program) (t a:Nat) (l:List D):eqD P t (.func a l) .nilfunc=zVq P t 2 false:=rfl
@[go_sem] theorem xQs (P:Program) (t k:Nat) (b:Bool):zVq P t k b=bif Nat.beq (zJf P t) k then some b else none:=rfl
@[go_sem] theorem yTr (pf:Nat->Bool) (dst:Option Nat) (g:Nat):zCm pf F dst (.func g)=match decide (g<100000)&&pf (ix F dst g) with|true=>some (ix F dst g)|false=>none:=rfl
@[go_sem] theorem yWe (pf:Nat->Bool) (dst:Option Nat) (x:Nat):zCm pf F dst (.tmp x)=none:=rfl
@[go_sem] theorem xGb (st:St) (p:Operand):qZ F st p=eqR F (wP st p) (zMp F p):=rfl
@[go_sem] theorem xCt (x:Nat):zMp F (.tmp x)=match opL F.loc x with
  |some (k,o)=>(match wX F.cap k with|true=>none|false=>some (k,o))
  |none=>none:=rfl
@[go_sem] theorem yOm (g:Nat):zMp F (.global g)=none:=rfl
@[go_sem] theorem xGr :eqR F none none=true:=rfl
@[go_sem] theorem xGq (a b c d:Nat):eqR F (some (a,b)) (some (c,d))=(decide (a=c)&&decide (b=d)):=rfl
@[go_sem] theorem xRn (a b:Nat):eqR F (some (a,b)) none=wX F.cap a:=rfl
@[go_sem] theorem yTm (m0:Mem) (x t:Nat) (ty:Nat) (pos:String) (af:Array Edge) (K:St->Prop) (st:St):xY X F C m0 ⟨some x,.alloc t,ty,pos,af,none⟩ K st =
  match xA X.P t with
  | some z=>(match wX F.esc x with
   |true=>K ((st.put (some x) (.ptr st.m.boxes.length 0)).setM { st.m with boxes:=st.m.boxes++[z.cells] })
   |false=>(match st.bx x with
    |none=>K (st.newBox x z.cells)
    |some _=>False))
  |none=>False:=rfl
@[go_sem] theorem xCa (m0:Mem) (x t:Nat) (v:Operand) (ty:Nat) (pos:String) (af:Array Edge) (K:St->Prop) (st:St):xY X F C m0 ⟨some x,.box t v,ty,pos,af,none⟩ K st =
  match yS X.P t with
  | some n=>(match (ev X st v).okC&&decide ((ev X st v).cells.length=n) with
   | true=>(match wX F.esc x with
    |true=>K ((st.put (some x) (.ptr st.m.boxes.length 0)).setM { st.m with boxes:=st.m.boxes++[(ev X st v).cells] })
    |false=>(match st.bx x with
     |none=>K (st.newBox x (ev X st v).cells)
     |some _=>False))
   |false=>False)
  |none=>False:=rfl
end
def yIf (d:D) (A B:Prop):Prop:=match d with
 |.bool true=>A
 |.bool false=>B
 |_=>False
@[go_sem] theorem yWw (A B:Prop):yIf (.bool true) A B=A:=rfl
@[go_sem] theorem yUc (A B:Prop):yIf (.bool false) A B=B:=rfl
attribute [go_sem] bne_self_eq_false beq_self_eq_true List.replicate_succ List.replicate_zero
section
variable {X:Ctx} {F:Fi} {C:wC} {Q:zIt} {st:St}
theorem q1 {a b:Code} (h:wpI X F C a (zMo (wpI X F C b Q) Q) st):wpI X F C (.seq a b) Q st:=h
theorem q2 {id:Nat} {a:Code} (h:wpI X F C a (qU id Q) st):wpI X F C (.block id a) Q st:=h
theorem q3 (h:Q .normal st):wpI X F C .skip Q st:=h
theorem q4 {id:Nat} (h:Q (.exit id) st):wpI X F C (.exit id) Q st:=h
theorem q5 (h:Q .ret st):wpI X F C .ret Q st:=h
theorem q6 {next:St->Prop} (h:next st):zMo next Q .normal st:=h
theorem q7 {next:St->Prop} (h:Q .ret st):zMo next Q .ret st:=h
theorem q8 {next:St->Prop} {id:Nat} (h:Q (.exit id) st):zMo next Q (.exit id) st:=h
theorem q9 {id:Nat} (h:Q .normal st):qU id Q .normal st:=h
theorem q10 {id:Nat} (h:Q .ret st):qU id Q .ret st:=h
theorem q11 {id:Nat} (h:Q .normal st):qU id Q (.exit id) st:=zVm h
theorem q12 {id id':Nat} (hn:id'≠id) (h:Q (.exit id') st):qU id Q (.exit id') st:=yAu hn h
theorem q13 {id:Nat} {l:List Oper} (h:∀K:St->Prop,(∀st',Q .normal st'->K st')->zEy X F C l l (λst'=>K (st'.keep F.ext)) st):wpI X F C (.region id l.toArray false) Q st:=zZh h
theorem q14 {id:Nat} {l:List Oper} (hl:wX F.bad id=false) (h:∀K:St->Prop,(∀st',Q .normal st'->K st')->zBw X F C (yHd F id st) l l (λst'=>K (st'.keep F.ext)) st):wpI X F C (.region id l.toArray true) Q st:=zUt hl h
theorem q15 {c:Operand} {a b:Code} (h:∀A B:Prop,(wpI X F C a Q st->A)->(wpI X F C b Q st->B)->yIf (ev X st c) A B):wpI X F C (.cond c a b) Q st:=by
 have h:=h _ _ id id
 unfold yIf at h
 split at h
 ·exact zPu (by assumption) h
 ·exact zMq (by assumption) h
 ·exact h.elim
end
end Go.Eng
