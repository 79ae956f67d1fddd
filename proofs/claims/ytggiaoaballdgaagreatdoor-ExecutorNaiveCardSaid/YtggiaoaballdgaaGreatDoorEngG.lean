/- Part of the engine that proves it: see the last text. -/
import Derived.Test.YtggiaoaballdgaaGreatDoorJ1
set_option linter.unusedSimpArgs false
set_option linter.unusedVariables false
namespace Go.Eng
open Go
abbrev Call :=Nat->Mem->List D->Option (D×Mem)
noncomputable def eqO (a b:D):Bool:=@decide (a=b) (Classical.propDecidable _)
noncomputable section
mutual
def eqV :D->D->Bool
 |.int k n,.int k' n'=>decide (k=k')&&decide (n=n')
 |.bool a,.bool b=>decide (a=b)
 |.str a,.str b=>decide (a=b)
 |.slice t k es,.slice t' k' es'=>decide (t=t')&&(decide (k=k')&&zVr es es')
 |.nil,.nil=>true
 |.opq,.opq=>true
 |.rsl a b c d,.rsl a' b' c' d'=>decide (a=a')&&(decide (b=b')&&(decide (c=c')&&decide (d=d')))
 |.ptr a b,.ptr a' b'=>decide (a=a')&&decide (b=b')
 |.nilptr,.nilptr=>true
 |.ref cs o,.ref cs' o'=>zVr cs cs'&&decide (o=o')
 |.func f cs,.func f' cs'=>decide (f=f')&&zVr cs cs'
 |.nilfunc,.nilfunc=>true
 |.agg cs,.agg cs'=>zVr cs cs'
 |.tuple cs,.tuple cs'=>zVr cs cs'
 |.undef,.undef=>true
 |.yld a,.yld a'=>decide (a=a')
 |.mp a,.mp a'=>decide (a=a')
 |.nilmp,.nilmp=>true
 |.itr a,.itr a'=>decide (a=a')
 |.lrec a b c d e f g h,.lrec a' b' c' d' e' f' g' h'=>eqO (.lrec a b c d e f g h) (.lrec a' b' c' d' e' f' g' h')
 |.mrec a b,.mrec a' b'=>zVr a a'&&zVr b b'
 |.mit a b c,.mit a' b' c'=>decide (a=a')&&(decide (b=b')&&decide (c=c'))
 |_,_=>false
def zVr :List D->List D->Bool
 |[],[]=>true
 |a::r,b::s=>eqV a b&&zVr r s
 |_,_=>false
end
def yHw :List (List D)->List (List D)->Bool
 |[],_=>true
 |a::r,[]=>wB a&&yHw r []
 |a::r,b::s=>(wB a||zVr a b)&&yHw r s
def xEe (m m':Mem):Bool:=yHw m.boxes m'.boxes
section
variable {R:Type}
def zOj (call:Call) (g:Nat) (ds:List D) (dst:Option Nat) (K:St->Option R) (st:St):Option R:=
 match call g st.m ds with
 |some (r,m)=>K ((st.put dst r).setM m)
 |none=>none
def zFf (call:Call) (m0:Mem) (b:Bool) (g:Nat) (ds:List D) (dst:Option Nat) (K:St->Option R) (st:St):Option R:=
 match call g st.m ds with
 |some (r,m)=>(match b||xEe m0 m with
  |true=>K ((st.put dst r).setM m)
  |false=>none)
 |none=>none
def zGr (X:Ctx) (o:Oper) (K:St->Option R) (st:St):Option R:=
 match zT X st.m st o.op with
 |some d=>K (st.put o.dst d)
 |none=>none
def zGt (X:Ctx) (F:Fi) (o:Oper) (K:St->Option R) (st:St):Option R:=
 match wO X (mkB F o.dst) st.m st o.op with
 |some (d,m)=>K ((st.put o.dst d).setM m)
 |none=>none
def yHt (X:Ctx) (o:Oper) (K:St->Option R) (st:St):Option R:=
 match yBb X st o.op with
 |some d=>K (st.put o.dst d)
 |none=>none
def zFa (X:Ctx) (t:Nat) (p v:Operand) (K:St->Option R) (st:St):Option R:=
 match p with
 | .tmp x=>match st.lp x with
  | some (key,off)=>match st.bx key,yS X.P t with
   |some cs,some n=>match (ev X st v).okC&&decide ((ev X st v).cells.length=n)&&decide (off+n<=cs.length) with
    |true=>K { st with bx:=upd st.bx key (some (setRow cs off (ev X st v).cells)) }
    |false=>none
   |_,_=>none
  | none=>match st.sl x with
   | .ptr id off=>match uN st.m id,yS X.P t with
    |some cs,some n=>match (ev X st v).okC&&decide ((ev X st v).cells.length=n)&&decide (off+n<=cs.length) with
     |true=>K (st.setM { st.m with boxes:=st.m.boxes.set id (setRow cs off (ev X st v).cells) })
     |false=>none
    |_,_=>none
   |_=>none
 |_=>none
def zEd (F:Fi) (o:Oper) (cs:List D) (K:St->Option R) (st:St):Option R:=
 match o.dst with
 |some x=>match wX F.esc x with
  |true=>K ((st.put o.dst (.ptr st.m.boxes.length 0)).setM { st.m with boxes:=st.m.boxes++[cs] })
  |false=>K (st.newBox x cs)
 |none=>none
def zDx (X:Ctx) (F:Fi) (call:Call) (o:Oper) (K:St->Option R) (st:St):Option R:=
 match o.op with
 |.alloc t=>match xA X.P t with|some z=>zEd F o z.cells K st|none=>none
 |.box t v=>match yS X.P t with
  |some n=>match (ev X st v).okC&&decide ((ev X st v).cells.length=n) with|true=>zEd F o (ev X st v).cells K st|false=>none
  |none=>none
 |.store t p v=>match o.dst with|none=>zFa X t p v K st|some _=>none
 | .call { callee:=.value f,args,argTypes:=_ }=>match ev X st f with
  |.func g cap=>match decide (g<100000) with
   |true=>zOj call (ix F o.dst g) (vB X st args.toList++cap) o.dst K st
   |false=>none
  |.yld id=>zOj call (qQ+id) (vB X st args.toList) o.dst K st
  |_=>none
 |.call { callee:=.builtin .append,args:=_,argTypes:=_ }|.call { callee:=.builtin .copy,args:=_,argTypes:=_ }|.call { callee:=.builtin .clear,args:=_,argTypes:=_ }=>zGt X F o K st
 |.buildSlice _ _ _=>yHt X o K st
 |.call { callee:=.builtin .len,args:=_,argTypes:=_ }|.call { callee:=.builtin .min,args:=_,argTypes:=_ }|.call { callee:=.builtin .max,args:=_,argTypes:=_ }=>zGr X o K st
 | .fieldAddr t p i=>match wP st p with
  |some (key,off)=>match zE X.P t i,o.dst with
   |some n,some x=>K (st.putL x key (off+n))
   |_,_=>none
  |none=>zGr X o K st
 | .nilCheck p=>match wP st p with
  |some (key,off)=>match o.dst with
   |some x=>K (st.putL x key off)
   |none=>K st
  |none=>zGr X o K st
 |.makeSlice _ _ _=>zGt X F o K st
 |.convert s d _=>match wA X.P s&&xB X.P d with
  |true=>zGt X F o K st
  |false=>zGr X o K st
 |.makeFunc _ _ b=>zGr X o K (uV st b.toList)
 |.move _|.assign _|.pick _ _ _|.load _ _|.binOp _ _ _ _ _|.unOp _ _ _|.field _ _ _|.build _ _
 |.indexAddr _ _ _|.index _ _ _|.extract _ _|.slice _ _ _ _ _=>zGr X o K st
 |_=>none
def opM (X:Ctx) (F:Fi) (call:Call) (all:List Oper) (o:Oper) (K:St->Option R) (st:St):Option R:=
 match o.guard with
 |none=>zDx X F call o K st
 | some (j,want)=>match vE all st j with
  |some (some b)=>(match eqB want b with
   |true=>zDx X F call o K st
   |false=>K (st.put o.dst (.tuple [])))
  |some none=>K (st.put o.dst (.tuple []))
  |none=>none
def yPb (X:Ctx) (F:Fi) (call:Call) (all:List Oper):List Oper->(St->Option R)->St->Option R
 |[],K,st=>K st
 |o::r,K,st=>opM X F call all o (yPb X F call all r K) st
def zAt (X:Ctx) (m0:Mem) (o:Oper) (K:St->Option R) (st:St):Option R:=
 match zT X m0 st o.op with
 |some d=>K (st.put o.dst d)
 |none=>none
def zAo (F:Fi) (o:Oper) (cs:List D) (K:St->Option R) (st:St):Option R:=
 match o.dst with
 | some x=>match wX F.esc x with
  |true=>K ((st.put o.dst (.ptr st.m.boxes.length 0)).setM { st.m with boxes:=st.m.boxes++[cs] })
  |false=>match st.bx x with
   |none=>K (st.newBox x cs)
   |some _=>none
 |none=>none
def zBj (X:Ctx) (F:Fi) (m0:Mem) (t:Nat) (p v:Operand) (K:St->Option R) (st:St):Option R:=
 match qZ F st p with
 | true=>match wP st p with
  | some (key,off)=>match st.bx key,yS X.P t with
   |some cs,some n=>match !zTd F p&&((ev X st v).okC&&decide ((ev X st v).cells.length=n)&&decide (off+n<=cs.length)) with
    |true=>K { st with bx:=upd st.bx key (some (setRow cs off (ev X st v).cells)) }
    |false=>none
   |_,_=>none
  | none=>match ev X st p with
   | .ptr id off=>match uN st.m id,yS X.P t with
    |some cs,some n=>match yBp F m0 p id&&((ev X st v).okC&&decide ((ev X st v).cells.length=n)&&decide (off+n<=cs.length)) with
     |true=>K (st.setM { st.m with boxes:=st.m.boxes.set id (setRow cs off (ev X st v).cells) })
     |false=>none
    |_,_=>none
   |_=>none
 |false=>none
def vR (X:Ctx) (F:Fi) (pf:Nat->Bool) (call:Call) (m0:Mem) (o:Oper) (K:St->Option R) (st:St):Option R:=
 match o.op with
 |.alloc t=>match xA X.P t with|some z=>zAo F o z.cells K st|none=>none
 |.box t v=>match yS X.P t with
  |some n=>match (ev X st v).okC&&decide ((ev X st v).cells.length=n) with|true=>zAo F o (ev X st v).cells K st|false=>none
  |none=>none
 |.store t p v=>match o.dst with|none=>zBj X F m0 t p v K st|some _=>none
 | .call { callee:=.value f,args,argTypes:=_ }=>match zCm pf F o.dst f with
  |some g=>match call g ⟨[],[]⟩ (vB X st args.toList) with
   |some (d,_)=>K (st.put o.dst d)
   |none=>none
  | none=>match ev X st f with
   |.func g cap=>match decide (g<100000) with
    |true=>zFf call m0 (mkB F o.dst) (ix F o.dst g) (vB X st args.toList++cap) o.dst K st
    |false=>none
   |.yld id=>zFf call m0 (mkB F o.dst) (qQ+id) (vB X st args.toList) o.dst K st
   |_=>none
 |.call { callee:=.builtin .append,args:=_,argTypes:=_ }|.call { callee:=.builtin .copy,args:=_,argTypes:=_ }|.call { callee:=.builtin .clear,args:=_,argTypes:=_ }=>zGt X F o K st
 |.buildSlice _ _ _=>yHt X o K st
 |.call { callee:=.builtin .len,args:=_,argTypes:=_ }|.call { callee:=.builtin .min,args:=_,argTypes:=_ }|.call { callee:=.builtin .max,args:=_,argTypes:=_ }=>zAt X m0 o K st
 | .fieldAddr t p i=>match wP st p with
  |some (key,off)=>match zE X.P t i,o.dst with
   |some n,some x=>K (st.putL x key (off+n))
   |_,_=>none
  |none=>zAt X m0 o K st
 | .nilCheck p=>match wP st p with
  |some (key,off)=>match o.dst with
   |some x=>K (st.putL x key off)
   |none=>K st
  |none=>zAt X m0 o K st
 |.load _ p=>match qZ F st p with
  |true=>zAt X m0 o K st
  |false=>none
 |.makeSlice _ _ _=>zGt X F o K st
 |.convert s d _=>match wA X.P s&&xB X.P d with
  |true=>zGt X F o K st
  |false=>zAt X m0 o K st
 |.move _|.assign _|.pick _ _ _|.binOp _ _ _ _ _|.unOp _ _ _|.makeFunc _ _ _|.field _ _ _|.build _ _
 |.indexAddr _ _ _|.index _ _ _|.extract _ _|.slice _ _ _ _ _=>zAt X m0 o K st
 |_=>none
def yBc (X:Ctx) (F:Fi) (pf:Nat->Bool) (call:Call) (m0:Mem) (all:List Oper) (o:Oper) (K:St->Option R) (st:St):Option R:=
 match o.guard with
 |none=>vR X F pf call m0 o K st
 | some (j,want)=>match vE all st j with
  |some (some b)=>(match eqB want b with
   |true=>vR X F pf call m0 o K st
   |false=>K (st.put o.dst (.tuple [])))
  |some none=>K (st.put o.dst (.tuple []))
  |none=>none
def zTj (X:Ctx) (F:Fi) (pf:Nat->Bool) (call:Call) (m0:Mem) (all:List Oper):List Oper->(St->Option R)->St->Option R
 |[],K,st=>K st
 |o::r,K,st=>yBc X F pf call m0 all o (zTj X F pf call m0 all r K) st
end
def uL {α:Type} (n:Nat) (k:Nat->α):α:=
 match n with
 |0=>k 0
 |m+1=>k (m+1)
def yCn {α:Type} (n:Int) (k:Int->α):α:=
 match n with
 |.ofNat m=>uL m λm=>k (.ofNat m)
 |.negSucc m=>uL m λm=>k (.negSucc m)
def zCn {α:Type} (d:D) (k:D->α):α:=
 match d with
 |.int kk n=>yCn n λn=>k (.int kk n)
 |.bool b=>(match b with|true=>k (.bool true)|false=>k (.bool false))
 |.str s=>k (.str s)
 |.slice t kk es=>k (.slice t kk es)
 |.nil=>k .nil
 |.opq=>k .opq
 |.rsl a b c d=>uL a λa=>uL b λb=>uL c λc=>k (.rsl a b c d)
 |.ptr a b=>k (.ptr a b)
 |.nilptr=>k .nilptr
 |.ref cs o=>uL o λo=>k (.ref cs o)
 |.func f cs=>k (.func f cs)
 |.nilfunc=>k .nilfunc
 |.agg cs=>k (.agg cs)
 |.tuple ds=>k (.tuple ds)
 |.undef=>k .undef
 |.yld a=>uL a λa=>k (.yld a)
 |.mp a=>uL a λa=>k (.mp a)
 |.nilmp=>k .nilmp
 |.itr a=>uL a λa=>k (.itr a)
 |.lrec F xs sl ps a c s j=>uL s λs=>uL j λj=>k (.lrec F xs sl ps a c s j)
 |.mrec ks vs=>k (.mrec ks vs)
 |.mit a b c=>uL a λa=>uL b λb=>uL c λc=>k (.mit a b c)
def zJr {α:Type}:List D->(List D->α)->α
 |[],k=>k []
 |d::r,k=>zCn d λd=>zJr r λr=>k (d::r)
def zOq {α:Type}:List Nat->(List Nat->α)->α
 |[],k=>k []
 |d::r,k=>uL d λd=>zOq r λr=>k (d::r)
def zOr {α:Type}:List (List D)->(List (List D)->α)->α
 |[],k=>k []
 |d::r,k=>zJr d λd=>zOr r λr=>k (d::r)
def zQm {α:Type} (m:Mem) (k:Mem->α):α:=
 zOr m.boxes λb=>zOq m.toks λt=>k ⟨b,t⟩
def zWb {α:Type}:List (Nat×D)->(List (Nat×D)->α)->α
 |[],k=>k []
 |(x,d)::r,k=>zCn d λd=>zWb r λr=>k ((x,d)::r)
def zWc {α:Type}:List (Nat×(Nat×Nat))->(List (Nat×(Nat×Nat))->α)->α
 |[],k=>k []
 |(x,(a,b))::r,k=>uL a λa=>uL b λb=>zWc r λr=>k ((x,(a,b))::r)
def zWd {α:Type}:List (Nat×List D)->(List (Nat×List D)->α)->α
 |[],k=>k []
 |(x,d)::r,k=>zJr d λd=>zWd r λr=>k ((x,d)::r)
def yBw {α:Type} (st:St) (l:List Nat) (k:St->α):α:=
 zWb (zJg st.sl l) λa=>zWc (zCj (zZc l st.lp) l) λb=>zWd (zCj st.bx l) λc=>zQm st.m λm=>k ⟨slL a,opL b,opL c,m⟩
theorem vI {α:Type} (n:Nat) (k:Nat->α):uL n k=k n:=by cases n<;>rfl
theorem yFs {α:Type} (n:Int) (k:Int->α):yCn n k=k n:=by cases n<;>simp only[yCn,vI]
theorem zSa {α:Type} (d:D) (k:D->α):zCn d k=k d:=by
 cases d with
 |int kk n=>simp only[zCn,yFs]
 |bool b=>cases b<;>rfl
 |ref cs o=>simp only[zCn,vI]
 |rsl a b c d=>simp only[zCn,vI]
 |yld a=>simp only[zCn,vI]
 |mp a=>simp only[zCn,vI]
 |itr a=>simp only[zCn,vI]
 |lrec F xs sl ps a c s j=>simp only[zCn,vI]
 |mit a b c=>simp only[zCn,vI]
 |_=>rfl
theorem wR {α:Type}:∀(l:List D) (k:List D->α),zJr l k=k l
 |[],_=>rfl
 |d::r,k=>by simp only[zJr,zSa,wR r]
theorem zNv {α:Type}:∀(l:List Nat) (k:List Nat->α),zOq l k=k l
 |[],_=>rfl
 |d::r,k=>by simp only[zOq,vI,zNv r]
theorem zNw {α:Type}:∀(l:List (List D)) (k:List (List D)->α),zOr l k=k l
 |[],_=>rfl
 |d::r,k=>by simp only[zOr,wR,zNw r]
theorem uA {α:Type} (m:Mem) (k:Mem->α):zQm m k=k m:=by simp only[zQm,zNw,zNv]
theorem zRy {α:Type}:∀(l:List (Nat×D)) (k:List (Nat×D)->α),zWb l k=k l
 |[],_=>rfl
 |(x,d)::r,k=>by simp only[zWb,zSa,zRy r]
theorem zRz {α:Type}:∀(l:List (Nat×(Nat×Nat))) (k:List (Nat×(Nat×Nat))->α),zWc l k=k l
 |[],_=>rfl
 |(x,(a,b))::r,k=>by simp only[zWc,vI,zRz r]
theorem zSb {α:Type}:∀(l:List (Nat×List D)) (k:List (Nat×List D)->α),zWd l k=k l
 |[],_=>rfl
 |(x,d)::r,k=>by simp only[zWd,wR,zSb r]
theorem wN {α:Type} (st:St) (l:List Nat) (k:St->α):yBw st l k=k (st.keep l):=by
 simp only[yBw,zRy,zRz,zSb,uA];rfl
structure Fx where
 F:Fi
 n:Nat
 rs:List ResultVar
 code:Code
 cl:Bool
def yXf (X:Ctx) (rs:List ResultVar):Exit×St->Option (D×Mem)
 |(.normal,st)=>(match yGz X rs st with|some r=>some (r,st.m)|none=>none)
 |(.ret,st)=>(match yGz X rs st with|some r=>some (r,st.m)|none=>none)
 |_=>none
def zCb (X:Ctx) (ex:Fi->Code->St->Option (Exit×St)) (fx:Fx) (m:Mem) (ds:List D):Option (D×Mem):=
 zJr ds λds=>zQm m λm=>(match ex fx.F fx.code (zIn ds m) with
  |some o=>yXf X fx.rs o
  |none=>none)
def yUt (m:Mem) (id s j:Nat) (b:Bool):Option (D×Mem):=match zOe m id 1 s (some j) with
 |some m'=>some (.bool b,m')
 |none=>none
def yBz (id:Nat):Option (Exit×St)->Option (D×Mem)
 |some (.normal,st)=>yUt st.m id 0 0 true
 |some (.ret,st)=>yUt st.m id 2 1 false
 |some (.exit k,st)=>yUt st.m id 2 (k+2) false
 |_=>none
def zGw (ex:Fi->Code->St->Option (Exit×St)) (id:Nat) (m:Mem) (ds:List D):Option (D×Mem):=
 match m.boxes[id]? with
 | some [.lrec F xs sl ps a c 0 0]=>(match Nat.beq ds.length ps.length with
  | true=>zJr ds λds=>zQm m λm=>(match ex F a ⟨slL (ps.zip ds++xs.zip sl),opL [],opL [],m⟩ with
   |some (.normal,st)=>(match zOe st.m id 0 1 none with
    |some m1=>yBz id (ex F c (st.setM m1))
    |none=>none)
   |_=>none)
  |false=>none)
 |_=>none
def zJh (X:Ctx) (T:Nat->Option Fx) (ex:Fi->Code->St->Option (Exit×St)):Call:=λg m ds=>
 match T g with
 | some fx=>(match Nat.ble ds.length fx.n with
  | true=>(match fx.cl with
   |true=>(match zCb X ex fx ⟨[],[]⟩ (zH ds) with
    |some (r,m')=>some (frz m' r,m)
    |none=>none)
   | false=>(match Nat.ble 200000 g&&Nat.blt g 300000 with
    | true=>(match zCb X ex fx ⟨[],[]⟩ (yMo m ds) with
     |some (r,m')=>(match frs m' r with
      |true=>some (frz m' r,m)
      |false=>none)
     |none=>none)
    |false=>zCb X ex fx m ds))
  |false=>none)
 |none=>X.pr g m ds
def zCa (X:Ctx) (T:Nat->Option Fx) (ex:Fi->Code->St->Option (Exit×St)):Call:=λg m ds=>
 match Nat.ble qQ g with
 |true=>zGw ex (g-qQ) m ds
 |false=>zJh X T ex g m ds
def pfT (T:Nat->Option Fx) (g:Nat):Bool:=match T g with|some fx=>fx.cl|none=>false
def zBh (o:Option (Exit×St)) (f:St->Option (Exit×St)):Option (Exit×St):=
 match o with
 |some (.normal,st')=>f st'
 |o=>o
def yXu :Nat->Exit
 |0=>.normal
 |1=>.ret
 |k+2=>.exit k
def yCt (id:Nat) (st:St):Option (D×Mem)->Option (Exit×St)
 | some (_,m)=>(match m.boxes[id]? with
  |some [.lrec _ _ _ _ _ _ s j]=>(match Nat.beq s 1||Nat.beq s 3 with
   |true=>none
   |false=>some (yXu j,st.setM { m with boxes:=m.boxes.set id [zOi] }))
  |_=>none)
 |none=>none
def xF (X:Ctx) (T:Nat->Option Fx):Nat->Fi->Code->St->Option (Exit×St)
 |0,_,_,_=>none
 | n+1,F,c,st=>match c with
  |.skip=>some (.normal,st)
  | .region id ops dr=>(match dr with
   |false=>yPb X F (zCa X T (xF X T n)) ops.toList ops.toList (λst'=>yBw st' F.ext λst'=>some (.normal,st')) st
   |true=>(match wX F.bad id with
    |false=>zTj X F (pfT T) (zCa X T (xF X T n)) (yHd F id st) ops.toList ops.toList (λst'=>yBw st' F.ext λst'=>some (.normal,st')) st
    |true=>none))
  |.seq a b=>zBh (xF X T n F a st) (λst'=>xF X T n F b st')
  | .cond c a b=>(match ev X st c with
   |.bool t=>(match t with
    |true=>xF X T n F a st
    |false=>xF X T n F b st)
   |_=>none)
  | .block id a=>(match xF X T n F a st with
   |some (.exit id',st')=>(match Nat.beq id' id with
    |true=>some (.normal,st')
    |false=>some (.exit id',st'))
   |o=>o)
  |.exit id=>some (.exit id,st)
  |.ret=>some (.ret,st)
  |.loop a=>yBw st (zBy F a) λst=>zBh (xF X T n F a st) (λst'=>xF X T n F (.loop a) st')
  | .rangeFunc g ps a b=>(match ev X st g with
   |.func f cap=>(match decide (f<100000) with
    |true=>yCt st.m.boxes.length st (zCa X T (xF X T n) f { st.m with boxes:=st.m.boxes++[[yHv F st ps a b]] } (.yld st.m.boxes.length::cap))
    |false=>none)
   |_=>none)
  |_=>none
end
end Go.Eng
