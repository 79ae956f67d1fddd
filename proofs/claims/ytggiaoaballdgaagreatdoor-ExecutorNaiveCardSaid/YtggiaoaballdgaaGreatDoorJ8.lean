/- A part of the proof: see the last text. -/
import Derived.Test.YtggiaoaballdgaaGreatDoorJ4
import Derived.Test.YtggiaoaballdgaaGreatDoorR2Tab
set_option linter.unusedSimpArgs false
set_option linter.unusedVariables false
namespace Go.Eng
open Go Go.Proofs
abbrev Str :=List UInt8
structure Col where
 name:Str
 a:I64
 b:I64
 c:I64
 d:I64
 e:Bool
def yO (c:Col):D:=.agg [.str c.name,.int .i64 c.a.1,.int .i64 c.b.1,.int .i64 c.c.1,.int .i64 c.d.1,.bool c.e]
structure Fgn where
 cols:Sl I64
 table:I64
 key:I64
def yH (f:Fgn):D:=.agg [sl 1 I f.cols,.int .i64 f.table.1,.int .i64 f.key.1]
inductive xEp :D->Prop
 |leaf (a:I64) (s t:Str) (b c d:I64) (u:Str):xEp (.agg [.int .i64 a.1,.str s,.str t,.int .i64 b.1,.int .i64 c.1,.int .i64 d.1,.str u,.nil])
 |node (a:I64) (s t:Str) (b c d:I64) (u:Str) (l:List D) (hl:l.length<4611686018427387904) (h:∀x,x∈l->xEp x):xEp (.agg [.int .i64 a.1,.str s,.str t,.int .i64 b.1,.int .i64 c.1,.int .i64 d.1,.str u,.slice none 8 l])
abbrev Ex :Type:={ d:D // xEp d }
def zM (e:Ex):D:=e.1
structure ExR where
 a:I64
 s:Str
 t:Str
 b:I64
 c:I64
 d:I64
 u:Str
 args:Sl Ex
def ExR.enc (r:ExR):D:=.agg [.int .i64 r.a.1,.str r.s,.str r.t,.int .i64 r.b.1,.int .i64 r.c.1,.int .i64 r.d.1,.str r.u,sl 8 zM r.args]
theorem Ex.open (e:Ex):∃r:ExR,zM e=r.enc/\∀x∈r.args.items,SizeOf.sizeOf (zM x)<SizeOf.sizeOf (zM e):=by
 obtain⟨d,h⟩:=e
 cases h with
 |leaf a s t b c d u=>exact⟨⟨a,s,t,b,c,d,u,⟨none,by simp⟩⟩,rfl,λx hx=>by simp[Sl.items] at hx⟩
 | node a s t b c d u l hl h=>
  refine⟨⟨a,s,t,b,c,d,u,⟨some (l.attach.map λx=>(⟨x.1,h x.1 x.2⟩:Ex)),by have:(l.attach.map λx=>(⟨x.1,h x.1 x.2⟩:Ex)).length=l.length:=(List.length_map ..).trans List.length_attach;exact this▸hl⟩⟩,?_,?_⟩
  ·show D.agg _=D.agg _
   congr 8
   show [D.slice none 8 _]=[D.slice none 8 _]
   congr 2
   rw[List.map_map]
   show l=l.attach.map λx=>x.1
   simp
  ·intro x hx
   have hx:x∈l.attach.map λx=>(⟨x.1,h x.1 x.2⟩:Ex):=hx
   obtain⟨y,_,rfl⟩:=List.mem_map.1 hx
   have:=List.sizeOf_lt_of_mem y.2
   show SizeOf.sizeOf y.1<_
   unfold zM
   simp
   omega
theorem Ex.close (r:ExR):∃e:Ex,zM e=r.enc:=by
 cases hn:r.args.1 with
 |none=>exact⟨⟨_,.leaf r.a r.s r.t r.b r.c r.d r.u⟩,by simp[zM,ExR.enc,sl,hn]⟩
 |some l=>
  refine⟨⟨_,.node r.a r.s r.t r.b r.c r.d r.u (l.map zM) ?_ ?_⟩,by simp[zM,ExR.enc,sl,hn]⟩
  ·have:=r.args.lt;simp[Sl.items,hn] at this;simpa using this
  ·intro x hx;obtain⟨y,_,rfl⟩:=List.mem_map.1 hx;exact y.2
structure Tbl where
 name:Str
 cols:Sl Col
 keys:Sl (Sl I64)
 fgns:Sl Fgn
 checks:Sl Ex
def zQ (t:Tbl):D:=.agg [.str t.name,sl 6 yO t.cols,sl 1 (sl 1 I) t.keys,sl 3 yH t.fgns,sl 8 zM t.checks]
structure FgS where
 cols:Sl Str
 table:Str
 refs:Sl Str
def uM (f:FgS):D:=.agg [sl 1 S f.cols,.str f.table,sl 1 S f.refs]
def xEm (n:Nat):Type:={ l:List D // l.length=n/\∀g:Nat->Nat->Nat->Nat->D,zC g l=l }
structure Stm where
 kind:I64
 name:Str
 cols:Sl Col
 keys:Sl (Sl Str)
 fgns:Sl FgS
 checks:Sl Ex
 rest:xEm 16
def wL (s:Stm):D:=.agg (.int .i64 s.kind.1::.str s.name::sl 6 yO s.cols::sl 1 (sl 1 S) s.keys::sl 3 uM s.fgns::sl 8 zM s.checks::s.rest.1)
@[go_sem] theorem zXa {n:Nat} (r:xEm n):r.1.length=n:=r.2.1
@[go_sem] theorem yVx {n:Nat} (r:xEm n) (g:Nat->Nat->Nat->Nat->D):zC g r.1=r.1:=r.2.2 g
section
variable {g:Nat->Nat->Nat->Nat->D}
@[go_sem] theorem yJa (e:Ex):zF g (zM e)=zM e:=by
 obtain⟨d,h⟩:=e
 show zF g d=d
 induction h with
 |leaf=>rfl
 | node a s t b c d u l hl h ih=>
  simp only[go_sem]
  have:zC g l=l:=by
   clear hl h
   induction l with
   |nil=>rfl
   |cons x r ihr=>simp only[go_sem,ih x (by simp)];rw[ihr λy hy=>ih y (by simp[hy])]
  rw[this]
theorem yEp (c:Col):zF g (yO c)=yO c:=rfl
theorem zKr (c:Fgn):zF g (yH c)=yH c:=by simp only[yH,go_sem]
@[go_sem] theorem yVd (k:Nat) (s:Sl Ex):zF g (sl k zM s)=sl k zM s:=xL k _ s yJa
@[go_sem] theorem yTc (k:Nat) (s:Sl Col):zF g (sl k yO s)=sl k yO s:=xL k _ s yEp
@[go_sem] theorem zUx (k:Nat) (s:Sl Fgn):zF g (sl k yH s)=sl k yH s:=xL k _ s zKr
theorem zKq (c:Tbl):zF g (zQ c)=zQ c:=by simp only[zQ,go_sem]
@[go_sem] theorem ySy (k:Nat) (s:Sl Tbl):zF g (sl k zQ s)=sl k zQ s:=xL k _ s zKq
theorem zQx (c:FgS):zF g (uM c)=uM c:=by simp only[uM,go_sem]
@[go_sem] theorem yTb (k:Nat) (s:Sl FgS):zF g (sl k uM s)=sl k uM s:=xL k _ s zQx
@[go_sem] theorem yVb (k k':Nat) (s:Sl (Sl Str)):zF g (sl k (sl k' S) s)=sl k (sl k' S) s:=xL k _ s λx=>zQu k' x
theorem zQw (c:Stm):zF g (wL c)=wL c:=by simp only[wL,go_sem]
@[go_sem] theorem ySz (k:Nat) (s:Sl Stm):zF g (sl k wL s)=sl k wL s:=xL k _ s zQw
theorem vG (r:ExR):zF g r.enc=r.enc:=by simp only[ExR.enc,go_sem]
end
@[go_sem] theorem yGa (c:Col):yO c=.agg [.str c.name,.int .i64 c.a.1,.int .i64 c.b.1,.int .i64 c.c.1,.int .i64 c.d.1,.bool c.e]:=rfl
@[go_sem] theorem xDj (f:Fgn):yH f=.agg [sl 1 I f.cols,.int .i64 f.table.1,.int .i64 f.key.1]:=rfl
@[go_sem] theorem xQ (t:Tbl):zQ t=.agg [.str t.name,sl 6 yO t.cols,sl 1 (sl 1 I) t.keys,sl 3 yH t.fgns,sl 8 zM t.checks]:=rfl
@[go_sem] theorem xDk (f:FgS):uM f=.agg [sl 1 S f.cols,.str f.table,sl 1 S f.refs]:=rfl
@[go_sem] theorem zGa (s:Stm):wL s=.agg (.int .i64 s.kind.1::.str s.name::sl 6 yO s.cols::sl 1 (sl 1 S) s.keys::sl 3 uM s.fgns::sl 8 zM s.checks::s.rest.1):=rfl
@[go_sem] theorem vT (r:ExR):r.enc=.agg [.int .i64 r.a.1,.str r.s,.str r.t,.int .i64 r.b.1,.int .i64 r.c.1,.int .i64 r.d.1,.str r.u,sl 8 zM r.args]:=rfl
@[go_sem] theorem xAr (e:Ex):(zM e).cells.length=8:=by
 obtain⟨r,he,_⟩:=e.open
 rw[he];rfl
@[go_sem] theorem xTk (e:Ex):D.agg (List.take 8 (zM e).cells)=zM e:=by
 obtain⟨r,he,_⟩:=e.open
 rw[he];rfl
end Go.Eng
namespace Go.Eng
open Go
def zMm (k:Nat) (l:List D):D:=match l with|[]=>.nil|_::_=>.slice (some 1) k l
def zVv (l:List D):List Nat:=match l with|[]=>[]|_::_=>[l.length]
def wW (k:Nat) (l:List D):D:=match l with|[]=>.nil|_::_=>.slice none k l
@[go_sem] theorem xDo (m:Mem) (k:Nat) (l:List D):zY m k (zMm k l)=some l:=by
 cases l with
 |nil=>rfl
 |cons a r=>simp[zMm,zY]
@[go_sem] theorem xQr (k:Nat) (l:List D):(zMm k l).okC=true:=by cases l<;>rfl
@[go_sem] theorem xDz (k:Nat) (l:List D):(zMm k l).cells=[zMm k l]:=by cases l<;>rfl
@[go_sem] theorem xSi (k:Nat) (l:List D) (x:D) (xs:List D):zZ k ⟨[],zVv l⟩ (zMm k l) (x::xs)=some (zMm k (l++x::xs),⟨[],zVv (l++x::xs)⟩):=by
 cases l with
 |nil=>simp[zMm,zVv,yEd]
 |cons a r=>simp[zMm,zVv,ySp]
theorem uZ {g:Nat->Nat->Nat->Nat->D} {k:Nat} {l:List D} (h:zC g l=l):zF g (zMm k l)=wW k l:=by
 cases l with
 |nil=>rfl
 |cons a r=>simp only[zMm,yY,h,wW]
theorem zFq {g:Nat->Nat->Nat->Nat->D} {k:Nat} {l:List D} (h:zC g l=l):zF g (wW k l)=wW k l:=by
 cases l with
 |nil=>rfl
 |cons a r=>simp only[wW,yY,h]
@[go_sem] theorem xGl (P:Program) (t k:Nat) (l:List D) (kk:IntKind) (n:Int):zQf P t (wW k l) (.int kk n)=match zN P t with
  |some k'=>bif decide (k'=k) then(match atI l n with
   |some a=>some (.ref a.cells 0)
   |none=>none) else none
  |none=>none:=by
 cases l with
 |nil=>
  show none=_
  cases zN P t with
  |none=>rfl
  |some k'=>cases n<;>simp[atI]
 |cons a r=>
  show zQf P t (.slice none k (a::r)) (.int kk n)=_
  rw[qO]
  cases zN P t<;>rfl
@[go_sem] theorem xQm (k:Nat) (l:List D):(wW k l).okC=true:=by cases l<;>rfl
@[go_sem] theorem xDw (k:Nat) (l:List D):(wW k l).cells=[wW k l]:=by cases l<;>rfl
def lk {α:Type} (x:Nat) (a:α):List (Nat×α)->α
 |[]=>a
 |(y,b)::r=>if y=x then b else lk x a r
def ovr {α:Type} (c:List (Nat×α)):List (Nat×α)->List (Nat×α)
 |[]=>[]
 |(x,a)::r=>(x,lk x a c)::ovr c r
section
variable {α:Type} (x y:Nat) (a b:α) (r c:List (Nat×α))
@[go_sem] theorem xSy :lk x a []=a:=rfl
@[go_sem] theorem xQt :lk x a ((y,b)::r)=if y=x then b else lk x a r:=rfl
@[go_sem] theorem xQe :ovr c []=[]:=rfl
@[go_sem] theorem xFr :ovr c ((x,a)::r)=(x,lk x a c)::ovr c r:=rfl
end
variable {X:Ctx} {F:Fi} {C:wC} {Q:zIt} {st:St}
theorem zAw {a:Code} {T:Type} (live:List Nat) {l:List (Nat×D)} {lp:List (Nat×(Nat×Nat))} {bx:List (Nat×List D)} {m:Mem} (hl:zBy F a=live) (hst:st.keep live=⟨slL l,opL lp,opL bx,m⟩)
  (chg:T->List (Nat×D)) (chgB:T->List (Nat×List D)) (mem:T->Mem) (I:T->Prop) (μ:T->Nat) (p0:T)
  (h0:(⟨slL l,opL lp,opL bx,m⟩:St)=⟨slL (ovr (chg p0) l),opL lp,opL (ovr (chgB p0) bx),mem p0⟩) (hI:I p0)
  (hr:∀p,I p->wpI X F C a (zMo (λst'=>∃p',st'.keep live=⟨slL (ovr (chg p') l),opL lp,opL (ovr (chgB p') bx),mem p'⟩/\I p'/\μ p'<μ p) Q) ⟨slL (ovr (chg p) l),opL lp,opL (ovr (chgB p) bx),mem p⟩) :
  wpI X F C (.loop a) Q st:=
 wM live (λp=>⟨slL (ovr (chg p) l),opL lp,opL (ovr (chgB p) bx),mem p⟩) I μ p0 hl (hst.trans h0) hI hr
theorem lpC {a:Code} {T:Type} (live:List Nat) {l:List (Nat×D)} {lp:List (Nat×(Nat×Nat))} {bx:List (Nat×List D)} {m:Mem}
  (chg:T->List (Nat×D)) (chgB:T->List (Nat×List D)) (mem:T->Mem) (I:T->Prop) (μ:T->Nat) (p0:T) (hI:I p0)
  (hr:∀p,I p->wpI X F C a (zMo (λst'=>∃p',st'.keep live=⟨slL (ovr (chg p') l),opL lp,opL (ovr (chgB p') bx),mem p'⟩/\I p'/\μ p'<μ p) Q) ⟨slL (ovr (chg p) l),opL lp,opL (ovr (chgB p) bx),mem p⟩)
  (hl:zBy F a=live:=by rfl) (hst:st.keep live=⟨slL l,opL lp,opL bx,m⟩:=by simp +decide only[go_sem,Nat.reduceAdd,Nat.reduceMul,Nat.reduceSub];exact rfl)
  (h0:(⟨slL l,opL lp,opL bx,m⟩:St)=⟨slL (ovr (chg p0) l),opL lp,opL (ovr (chgB p0) bx),mem p0⟩:=by simp +decide only[go_sem,Nat.reduceAdd,Nat.reduceMul,Nat.reduceSub]<;>rfl) :
  wpI X F C (.loop a) Q st:=zAw live hl hst chg chgB mem I μ p0 h0 hI hr
variable {X:Ctx} {m:Mem} {st:St}
@[go_sem] theorem yOl (bx:Bool) (s d:Nat) (x:Operand):wO X bx m st (.convert s d x)=match wA X.P s&&xB X.P d,ev X st x with
  |true,.str s=>bif decide (s.length<=16777216) then some (.rsl m.boxes.length 0 s.length 1,{ m with boxes:=m.boxes++[s.map yT] }) else none
  |_,_=>none:=rfl
@[go_sem] theorem xBp (id off len:Nat):zIl m (.rsl id off len 1)=match uN m id with
  |some cs=>bif decide (off+len<=cs.length) then(match bytesOf ((cs.drop off).take len) with|some l=>some (.str l)|none=>none) else none
  |none=>none:=rfl
@[go_sem] theorem zUy (t:Option Nat) (es:List D):zIl m (.slice t 1 es)=match bytesOf es with|some l=>some (.str l)|none=>none:=rfl
@[go_sem] theorem xBq :zIl m .nil=some (.str []):=rfl
@[go_sem] theorem yUm (P:Program) (t:Nat) (a b:List UInt8):zAa P t .lss (.str a) (.str b)=some (.bool (Op.bytesLess a b)):=rfl
@[go_sem] theorem xRx (P:Program) (t:Nat) (k k':IntKind) (a b:Int):zAa P t .shr (.int k a) (.int k' b)=bif decide (b<0) then none else some (.int k (a.fdiv (2 ^ min b.toNat k.bits))):=rfl
attribute [go_sem] zFh zKc zQj
@[go_sem] theorem xFc (P:Program) (t:Nat) (id off len k:Nat) (l:Option Int) (h:Int->Option Int):yUr P t (.rsl id off len k) l h=match zN P t,l,h len with
   |some k',some l,some h=>bif decide (k'=k) then zQj id off len k l h else none
   |_,_,_=>none:=rfl
@[go_sem] theorem xFd (P:Program) (t:Nat) (l:Option Int) (h:Int->Option Int):yUr P t .nil l h=match zN P t,l,h 0 with
   |some _,some l,some h=>bif decide (l=0)&&decide (h=0) then some .nil else none
   |_,_,_=>none:=rfl
def Sl.take {α:Type} (s:Sl α) (i:Nat):Sl α:=⟨s.1.map λl=>l.take i,by
 have h:=s.2
 cases e:s.1 with
 |none=>simp
 |some l=>rw[e] at h;simp only[Option.map_some,Option.getD_some] at *;have:=List.length_take_le' i l;omega⟩
theorem wrap_u64' (n:Int):IntKind.u64.wrap n=n % 18446744073709551616:=by simp[IntKind.wrap,IntKind.bits,IntKind.signed]
theorem zEw :∀l:List UInt8,bytesOf (l.map yT)=some l
 |[]=>rfl
 | b::r=>by
  have h:zNb (yT b)=some b:=by
   show some (UInt8.ofNat (b.toNat:Int).toNat)=some b
   rw[Int.toNat_natCast,UInt8.ofNat_toNat]
  simp only[List.map_cons,bytesOf,h,zEw r]
attribute [go_sem] Bool.and_self Int.toNat_natCast Nat.mul_one Nat.zero_add
@[go_sem] theorem zMx (k:Nat):(0<=(k:Int))=True:=eq_true (Int.natCast_nonneg k)
theorem zYa {k:Nat}:∀{l:List D},(∀d∈l,d.cells.length=k)->(zV l).length=l.length*k
 |[],_=>by simp[zV]
 |d::r,h=>by
  rw[zV,List.length_append,h d List.mem_cons_self,zYa (k:=k) (l:=r) λx hx=>h x (List.mem_cons_of_mem _ hx),List.length_cons,Nat.succ_mul];omega
theorem wT {k:Nat} {α:Type} {f:α->D} (hk:∀a,(f a).cells.length=k) (hm:∀a,yBn k (f a).cells=f a):∀l:List α,wI k l.length (zV (l.map f))=l.map f
 |[]=>rfl
 |a::r=>by
  rw[List.map_cons,zV,List.length_cons,wI,List.take_append_of_le_length (by rw[hk];exact Nat.le_refl _),List.take_of_length_le (by rw[hk];exact Nat.le_refl _),hm,List.drop_append,List.drop_eq_nil_of_le (by rw[hk];exact Nat.le_refl _),List.nil_append,hk,Nat.sub_self,List.drop_zero,wT hk hm r]
theorem zNh {g:Nat->Nat->Nat->Nat->D} {α:Type} {f:α->D} (h:∀a,zC g (f a).cells=(f a).cells):∀l:List α,zC g (zV (l.map f))=zV (l.map f)
 |[]=>rfl
 |a::r=>by rw[List.map_cons,zV,vJ,h,zNh h r]
@[go_sem] theorem yUp (k:Nat) (m:Mem) (t:Option Nat) (k':Nat) (e es:List D):vX k m (.slice t k' e) es []=some (.slice t k' e,m):=rfl
@[go_sem] theorem xEc (k:Nat) (m:Mem) (es:List D):vX k m .nil es []=some (.nil,m):=rfl
@[go_sem] theorem yXa (k:Nat) (m:Mem) (k':Nat) (e es:List D) (x:D) (xs:List D):vX k m (.slice (some 0) k' e) es (x::xs)=some (.rsl m.boxes.length 0 (es++x::xs).length k,{ m with boxes:=m.boxes++[zV (es++x::xs)] }):=rfl
@[go_sem] theorem xHp (k:Nat) (m:Mem) (es:List D) (x:D) (xs:List D):vX k m .nil es (x::xs)=some (.rsl m.boxes.length 0 (x::xs).length k,{ m with boxes:=m.boxes++[zV (x::xs)] }):=rfl
@[go_sem] theorem xHo (k:Nat) (m:Mem) (id off len k':Nat) (es:List D) (x:D) (xs:List D):vX k m (.rsl id off len k') es (x::xs)=match uN m id with
  |some cs=>bif decide (k'=k)&&(decide (off=0)&&(decide (cs.length=len*k)&&decide (0<len))) then some (.rsl m.boxes.length 0 (es++x::xs).length k,{ m with boxes:=m.boxes.set id []++[zV (es++x::xs)] }) else none
  |none=>none:=rfl
theorem zUc {α:Type} {k:Nat} {f:α->D} {l:List α} {m:Mem} {id:Nat} {n:Nat} (hb:uN m id=some (zV (l.map f))) (hn:n=l.length) (hk:∀a,(f a).cells.length=k) (hm:∀a,yBn k (f a).cells=f a) (hs:∀(g:Nat->Nat->Nat->Nat->D) a,zC g (f a).cells=(f a).cells) (h0:0<k:=by decide) :
  vM m m.boxes.length id 0 n k=.slice none k (l.map f):=by
 have hid:id<m.boxes.length:=(List.getElem?_eq_some_iff.1 (yC hb).1).1
 obtain⟨N,hN⟩:∃N,m.boxes.length=N+1:=⟨m.boxes.length-1,by omega⟩
 rw[hN]
 subst hn
 have hl:(zV (l.map f)).length=l.length*k:=by
  rw[zYa (k:=k) (λd hd=>by obtain⟨a,_,rfl⟩:=List.mem_map.1 hd;exact hk a),List.length_map]
 rw[zDq hb h0]
 simp only[Nat.zero_add,hl,Nat.le_refl,decide_true,cond_true,List.drop_zero]
 rw[zNh (hs _),wT hk hm]
def zAl (base:List Nat) (k:Nat) (l:List D):D:=match l with|[]=>.nil|_::_=>.slice (some (base.length+1)) k l
def zIs (base:List Nat) (l:List D):List Nat:=match l with|[]=>base|_::_=>base++[l.length]
@[go_sem] theorem yWu (m:Mem) (b:List Nat) (k:Nat) (l:List D):zY m k (zAl b k l)=some l:=by
 cases l with
 |nil=>rfl
 |cons a r=>simp[zAl,zY]
@[go_sem] theorem zXi (b:List Nat) (k:Nat) (l:List D):(zAl b k l).okC=true:=by cases l<;>rfl
@[go_sem] theorem zOb (b:List Nat) (k:Nat) (l:List D):(zAl b k l).cells=[zAl b k l]:=by cases l<;>rfl
@[go_sem] theorem yLy (bx:List (List D)) (b:List Nat) (k:Nat) (l:List D) (x:D) (xs:List D):zZ k ⟨bx,zIs b l⟩ (zAl b k l) (x::xs)=some (zAl b k (l++x::xs),⟨bx,zIs b (l++x::xs)⟩):=by
 cases l with
 |nil=>simp[zAl,zIs,yEd]
 |cons a r=>simp[zAl,zIs,zZ]
theorem qM {g:Nat->Nat->Nat->Nat->D} {b:List Nat} {k:Nat} {l:List D} (h:zC g l=l):zF g (zAl b k l)=wW k l:=by
 cases l with
 |nil=>rfl
 |cons a r=>simp only[zAl,yY,h,wW]
@[go_sem] theorem yFf (P:Program) (u k:Nat) (b:List Nat) (l:List D):lenT P u (zAl b k l)=match zI P u with|some _=>some l.length|none=>none:=by
 cases l with
 |nil=>exact zDl P u
 |cons a r=>exact qN P u _ _ _
@[go_sem] theorem yFn (P:Program) (t k:Nat) (b:List Nat) (l:List D) (kk:IntKind) (n:Int):zQf P t (zAl b k l) (.int kk n)=match zN P t with
  |some k'=>bif decide (k'=k) then(match atI l n with
   |some a=>some (.ref a.cells 0)
   |none=>none) else none
  |none=>none:=by
 cases l with
 |nil=>
  show none=_
  cases zN P t with
  |none=>rfl
  |some k'=>cases n<;>simp[atI]
 |cons a r=>
  show zQf P t (.slice _ k (a::r)) (.int kk n)=_
  rw[qO]
  cases zN P t<;>rfl
structure yBr {α:Type} (k:Nat) (f:α->D) (s:Sl α) (d:D):Prop where
 strip:zF noR d=sl k f s
 len:∀P u,lenT P u d=match zI P u with|some _=>some s.items.length|none=>none
 idx:∀P t (kk:IntKind) (n:Int),zQf P t d (.int kk n)=match zN P t with
  |some k'=>bif decide (k'=k) then(match atI s.items n with
   |some a=>some (.ref (f a).cells 0)
   |none=>none) else none
  |none=>none
 ok:d.okC=true
 cells:d.cells=[d]
theorem yBr.ofSl {α:Type} {k:Nat} {f:α->D} (s:Sl α) (h:∀x,zF noR (f x)=f x):yBr k f s (sl k f s):=
 ⟨xL k f s h,λP u=>yRa k f s P u,λP t kk n=>yRi k f s P t kk n,yZj k f s,zAh k f s⟩
end Go.Eng
namespace Go.Eng
open Go Go.Proofs
open Nat renaming reduceAdd → ra, reduceMul → rb, reduceSub → rc
set_option maxRecDepth 20000
set_option maxHeartbeats 32000000
attribute [local irreducible] wpI xU
variable {G:Nat->Option (List D)}
theorem zDg {α:Type} {P:α->Prop} {l:List α} {k:Nat} {x:α} (h:∀y∈l.take k,P y) (g:l[k]?=some x) (hx:P x):∀y∈l.take (k+1),P y:=by
 intro y hy
 rw[List.take_add_one,g] at hy
 rcases List.mem_append.1 hy with hy|hy
 ·exact h y hy
 ·have hy:y=x:=by simpa using hy
  subst hy;exact hx
inductive zIp :D->Prop
 |mk (r:ExR) (h:r.args.items.length<=8) (k:∀x∈r.args.items,zIp (zM x)):zIp r.enc
theorem few (n:Int) (s:Sl (List UInt8)):∃b,zA (XG G) TT 99 [.int .i64 n,sl 1 S s]=some (.bool b)/\(b=true->n<=20/\s.items.length<=20):=by
 suffices h:∃v,zA (XG G) TT 99 [.int .i64 n,sl 1 S s]=some v/\∃b,v=.bool b/\(b=true->n<=20/\s.items.length<=20) by
  obtain⟨v,h1,b,rfl,h2⟩:=h;exact⟨b,h1,h2⟩
 refine zS T99 rfl (by simp only[go_sem]) ?_
 unfold Tryz.f99 F99
 simp only[Option.getD_some]
 simp +decide only[go_sem,ra]
 refine gw trivial ?_
 refine wM (T:=Nat) [0,1,5] (λk=>⟨slL [(0,.int .i64 n),(1,sl 1 S s),(5,.int .i64 (k:Int))],opL [],opL [],⟨[],[]⟩⟩) (λk=>k<=s.items.length) (λk=>s.items.length-k) 0 rfl (by simp +decide only[go_sem]<;>rfl) (by simp) ?_
 rintro k hk
 have hlt:=s.lt
 by_cases h:k<s.items.length
 ·have h1:((k:Int)<(s.items.length:Int))=True:=by simp;omega
  obtain⟨a,ha⟩:∃a,s.items[k]?=some a:=⟨_,List.getElem?_eq_getElem h⟩
  have hw:=yU k (by omega)
  refine gw (an3 h1 ha hw) ?_
  by_cases h2:(60:Int)<a.length
  ·refine gw (an h1 h2) ?_
   simp +decide only[go_sem]
   exact⟨_,rfl,λh=>by cases h⟩
  ·refine gw (an3 h1 h2 hw) ?_
   exact⟨k+1,by simp +decide only[go_sem]<;>rfl,by omega,by omega⟩
 ·have h1:((k:Int)<(s.items.length:Int))=False:=by simp;omega
  refine gw h1 ?_
  by_cases h2:n<=20
  ·refine gw (an h1 h2) ?_
   simp +decide only[go_sem]
   exact⟨_,rfl,λh=>by simp at h;omega⟩
  ·refine gw (an h1 h2) ?_
   simp +decide only[go_sem]
   exact⟨_,rfl,λh=>by simp at h⟩
theorem yDx (n:Int):∃b,zA (XG G) TT 99 [.int .i64 n,.nil]=some (.bool b)/\(b=true->n<=20):=by
 obtain⟨b,h1,h2⟩:=few (G:=G) n ⟨none,by simp⟩
 exact⟨b,h1,λh=>(h2 h).1⟩
theorem yFv (e:Ex) (n:Int) (r:ExR) (he:zM e=r.enc) (ih:∀x∈r.args.items,∀n:Int,∃b,zA (XG G) TT 159 [zM x,.int .i64 n]=some (.bool b)/\(b=true->zIp (zM x))) :
  ∃b,zA (XG G) TT 159 [zM e,.int .i64 n]=some (.bool b)/\(b=true->zIp (zM e)):=by
 suffices h:∃v,zA (XG G) TT 159 [zM e,.int .i64 n]=some v/\∃b,v=.bool b/\(b=true->zIp (zM e)) by
  obtain⟨v,h1,b,rfl,h2⟩:=h;exact⟨b,h1,h2⟩
 have hlt:=r.args.lt
 rw[he]
 refine zS T159 rfl (by simp only[go_sem]) ?_
 unfold Tryz.f159 xJx
 simp only[Option.getD_some]
 simp +decide only[go_sem,ra]
 refine gw trivial ?_
 by_cases h1:n=0
 ·have h1:(n==0)=true:=by simp[h1]
  refine gw h1 ?_
  simp +decide only[go_sem]
  exact⟨_,rfl,λh=>by cases h⟩
 have h1:(n==0)=false:=by simp[h1]
 by_cases h2:(8:Int)<(r.args.items.length:Int)
 ·refine gw (an h1 h2) ?_
  simp +decide only[go_sem]
  exact⟨_,rfl,λh=>by cases h⟩
 refine gw (an h1 h2) ?_
 have hw:∃b,decide (100<IntKind.i64.wrap (IntKind.i64.wrap ((r.s.length:Int)+(r.t.length:Int))+(r.u.length:Int)))=b:=⟨_,rfl⟩
 obtain⟨b,hw⟩:=hw
 cases b
 ·refine gw (an3 h1 h2 hw) ?_
  refine wM (T:=Nat) [1,2,5] (λk=>⟨slL [(1,.int .i64 n),(2,.undef),(5,.int .i64 (k:Int))],opL [(2,(2,0))],opL [(2,r.enc.cells)],⟨[],[]⟩⟩) (λk=>k<=r.args.items.length/\∀y∈r.args.items.take k,zIp (zM y)) (λk=>r.args.items.length-k) 0 rfl (by simp +decide only[go_sem]<;>rfl) (by simp) ?_
  rintro k ⟨hk,hP⟩
  by_cases h:k<r.args.items.length
  ·have h3:((k:Int)<(r.args.items.length:Int))=True:=by simp;omega
   obtain⟨a,ha⟩:∃a,r.args.items[k]?=some a:=⟨_,List.getElem?_eq_getElem h⟩
   have hx:=yU k (by omega)
   obtain⟨b,hb,hbf⟩:=ih a (List.mem_of_getElem? ha) (IntKind.i64.wrap (n-1))
   simp +decide only[go_sem]
   refine gw (an4 h3 ha hx hb) ?_
   cases b
   ·refine gw (an4 h3 ha hx hb) ?_
    simp +decide only[go_sem]
    exact⟨_,rfl,λh=>by cases h⟩
   ·refine gw (an4 h3 ha hx hb) ?_
    exact⟨k+1,by simp +decide only[go_sem]<;>rfl,⟨by omega,zDg hP ha (hbf rfl)⟩,by omega⟩
  ·have h3:((k:Int)<(r.args.items.length:Int))=False:=by simp;omega
   refine gw h3 ?_
   simp +decide only[go_sem]
   rw[List.take_of_length_le (by omega)] at hP
   exact⟨_,rfl,λ_=>.mk r (by omega) hP⟩
 ·refine gw (an3 h1 h2 hw) ?_
  simp +decide only[go_sem]
  exact⟨_,rfl,λh=>by cases h⟩
theorem yNp :∀(N:Nat) (e:Ex),SizeOf.sizeOf (zM e)<N->∀n:Int,∃b,zA (XG G) TT 159 [zM e,.int .i64 n]=some (.bool b)/\(b=true->zIp (zM e))
 |0,e,h,n=>absurd h (Nat.not_lt_zero _)
 |N+1,e,h,n=>by
  obtain⟨r,he,hs⟩:=e.open
  exact yFv e n r he λx hx n=>yNp N x (by have:=hs x hx;omega) n
theorem xVe (e:Ex) (n:Int):∃b,zA (XG G) TT 159 [zM e,.int .i64 n]=some (.bool b)/\(b=true->zIp (zM e)):=yNp _ e (Nat.lt_succ_self _) n
end Go.Eng
