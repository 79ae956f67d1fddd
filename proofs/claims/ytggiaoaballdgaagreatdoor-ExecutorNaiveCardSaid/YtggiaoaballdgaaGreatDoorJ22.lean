/- A part of the proof: see the last text. -/
import Derived.Test.YtggiaoaballdgaaGreatDoorRows
import Derived.Below
import Derived.FnData
import Derived.Carry
import Derived.LaidHandle
import Derived.LaidLaws
import Derived.WideWitness
import Derived.Handed
import Derived.ProofKit
import Derived.OpenShut
import Derived.Test.YtggiaoaballdgaaGreatDoorJ4
import Derived.Test.YtggiaoaballdgaaGreatDoorJ8
import Derived.Test.YtggiaoaballdgaaGreatDoorJ12
import Derived.Test.YtggiaoaballdgaaGreatDoorJ21
import Derived.Test.YtggiaoaballdgaaGreatDoorJ9
import Derived.Test.YtggiaoaballdgaaGreatDoorJ16
set_option linter.unusedSimpArgs false
set_option linter.unusedVariables false
namespace Go.Eng
open Go Go.Proofs
section
variable {H:Type} {enc:TypeId×Value->H} {W:World}
theorem rds {t e k:Nat} (ht:Tryz.prog.underlying t=some (.slice e)) (hk:Tryz.prog.cellsOf e=k) (hk0:0<k) (hb:1<=Tryz.prog.bytesOf e) {α:Type} {f:α->D} (hc:∀a,(f a).cells.length=k)
  (h:∀N,Rd enc Tryz.prog W N e λa=>(f a).cells) (N:Nat):Rd enc Tryz.prog W N t (λs:Sl α=>[sl k f s]):=(zXb ht hk hk0 hb hc (h N)).mono (Nat.le_succ N)
theorem rdt {t len:Nat} {fs:Array Field} (ht:Tryz.prog.underlying t=some (.struct fs)) (hl:Tryz.prog.cellsOf t=len) {α:Type} {c:α->List D} (h:∀N,RdF enc Tryz.prog W N fs.toList 0 len c) (N:Nat):Rd enc Tryz.prog W N t c:=
 (zRi ht hl (h N)).mono (Nat.le_succ N)
theorem ce3 :Tryz.prog.cellsOf 3=1:=by kernel_rfl
theorem ce2 :Tryz.prog.cellsOf 2=1:=by kernel_rfl
theorem ce9 :Tryz.prog.cellsOf 9=1:=by kernel_rfl
theorem ce4 :Tryz.prog.cellsOf 4=1:=by kernel_rfl
theorem ce24 :Tryz.prog.cellsOf 24=1:=by kernel_rfl
theorem ce25 :Tryz.prog.cellsOf 25=1:=by kernel_rfl
theorem ce27 :Tryz.prog.cellsOf 27=3:=by kernel_rfl
theorem ce28 :Tryz.prog.cellsOf 28=1:=by kernel_rfl
theorem ce30 :Tryz.prog.cellsOf 30=8:=by kernel_rfl
theorem ce37 :Tryz.prog.cellsOf 37=1:=by kernel_rfl
theorem ce95 :Tryz.prog.cellsOf 95=1:=by kernel_rfl
theorem ce96 :Tryz.prog.cellsOf 96=1:=by kernel_rfl
theorem ce98 :Tryz.prog.cellsOf 98=5:=by kernel_rfl
theorem ce94 :Tryz.prog.cellsOf 94=6:=by kernel_rfl
theorem ce195 :Tryz.prog.cellsOf 195=3:=by kernel_rfl
theorem rd3 (N:Nat):Rd enc Tryz.prog W N 3 (λn:I64=>[.int .i64 n.1]):=yMy Tryz.underlying3
theorem rd2 (N:Nat):Rd enc Tryz.prog W N 2 (λn:I64=>[.int .i64 n.1]):=yMy Tryz.underlying2
theorem rd9 (N:Nat):Rd enc Tryz.prog W N 9 (λs:Str=>[.str s]):=yZd Tryz.underlying9
theorem rd4 (N:Nat):Rd enc Tryz.prog W N 4 (λb:Bool=>[.bool b]):=yQh Tryz.underlying4
theorem rd24 (N:Nat):Rd enc Tryz.prog W N 24 (λs:Sl I64=>[sl 1 I s]):=rds Tryz.underlying24 ce3 (by decide) (of_decide_eq_true (by kernel_rfl)) (λ_=>rfl) rd3 N
theorem rd95 (N:Nat):Rd enc Tryz.prog W N 95 (λs:Sl (Sl I64)=>[sl 1 (sl 1 I) s]):=
 rds Tryz.underlying95 ce24 (by decide) (of_decide_eq_true (by kernel_rfl)) (λa=>by rw[zAh];rfl) (λN=>(rd24 N).map λa=>⟨a,by rw[zAh]⟩) N
theorem rd27 (N:Nat):Rd enc Tryz.prog W N 27 (λp:I64×I64×Str=>[.int .i64 p.1.1,.int .i64 p.2.1.1,.str p.2.2]):=
 (rdt Tryz.underlying27 ce27 (λN=>yM rfl ce3 (rd3 N) (yM rfl ce2 (rd2 N) (yM rfl ce9 (rd9 N) zGx))) N).map λ⟨a,b,c,()⟩=>⟨(a,b,c),rfl⟩
theorem rd94 (N:Nat):Rd enc Tryz.prog W N 94 (λc:Col=>(yO c).cells):=
 (rdt Tryz.underlying94 ce94 (λN=>yM rfl ce9 (rd9 N) (yM rfl ce3 (rd3 N) (yM rfl ce2 (rd2 N) (yM rfl ce2 (rd2 N) (yM rfl ce3 (rd3 N) (yM rfl ce4 (rd4 N) zGx)))))) N).map
  λ⟨a,b,c,d,e,f,()⟩=>⟨⟨a,b,c,d,e,f⟩,rfl⟩
theorem rd37 (N:Nat):Rd enc Tryz.prog W N 37 (λs:Sl Col=>[sl 6 yO s]):=rds Tryz.underlying37 ce94 (by decide) (of_decide_eq_true (by kernel_rfl)) (λ_=>rfl) rd94 N
theorem rd195 (N:Nat):Rd enc Tryz.prog W N 195 (λc:Fgn=>(yH c).cells):=
 (rdt Tryz.underlying195 ce195 (λN=>yM rfl ce24 (rd24 N) (yM rfl ce3 (rd3 N) (yM rfl ce3 (rd3 N) zGx))) N).map λ⟨a,b,c,()⟩=>⟨⟨a,b,c⟩,rfl⟩
theorem rd96 (N:Nat):Rd enc Tryz.prog W N 96 (λs:Sl Fgn=>[sl 3 yH s]):=rds Tryz.underlying96 ce195 (by decide) (of_decide_eq_true (by kernel_rfl)) (λ_=>rfl) rd195 N
theorem yDn {N:Nat} (h:Rd enc Tryz.prog W N 30 λe:Ex=>(zM e).cells):Rd enc Tryz.prog W N 28 (λs:Sl Ex=>[sl 8 zM s]):=
 (zXb Tryz.underlying28 ce30 (by decide) (of_decide_eq_true (by kernel_rfl)) xAr h).mono (Nat.le_succ N)
theorem rd30 :∀(N:Nat),Rd enc Tryz.prog W N 30 λe:Ex=>(zM e).cells
 |0=>λ_ _ _ h=>absurd h (Nat.not_lt_zero _)
 | N+1=>(zRi Tryz.underlying30 ce30 (yM rfl ce3 (rd3 N) (yM rfl ce9 (rd9 N) (yM rfl ce9 (rd9 N) (yM rfl ce3 (rd3 N) (yM rfl ce27 (rd27 N) (yM rfl ce28 (yDn (rd30 N)) zGx))))))).map
  λ⟨a,s,t,b,(c,d,u),args,()⟩=>by
   obtain⟨e,he⟩:=Ex.close ⟨a,s,t,b,c,d,u,args⟩
   exact⟨e,by rw[he];rfl⟩
theorem rd28 (N:Nat):Rd enc Tryz.prog W N 28 (λs:Sl Ex=>[sl 8 zM s]):=yDn (rd30 N)
theorem rd98 (N:Nat):Rd enc Tryz.prog W N 98 (λc:Tbl=>(zQ c).cells):=
 (rdt Tryz.underlying98 ce98 (λN=>yM rfl ce9 (rd9 N) (yM rfl ce37 (rd37 N) (yM rfl ce95 (rd95 N) (yM rfl ce96 (rd96 N) (yM rfl ce28 (rd28 N) zGx))))) N).map
  λ⟨a,b,c,d,e,()⟩=>⟨⟨a,b,c,d,e⟩,rfl⟩
theorem rd23 (N:Nat):Rd enc Tryz.prog W N 23 (λs:Sl Tbl=>[sl 5 zQ s]):=rds Tryz.underlying23 ce98 (by decide) (of_decide_eq_true (by kernel_rfl)) (λ_=>rfl) rd98 N
theorem ce23 :Tryz.prog.cellsOf 23=1:=by kernel_rfl
theorem ce32 :Tryz.prog.cellsOf 32=11:=by kernel_rfl
theorem ce50 :Tryz.prog.cellsOf 50=1:=by kernel_rfl
theorem ce72 :Tryz.prog.cellsOf 72=1:=by kernel_rfl
theorem rd25 (N:Nat):Rd enc Tryz.prog W N 25 (λs:Sl Str=>[sl 1 S s]):=rds Tryz.underlying25 ce9 (by decide) (of_decide_eq_true (by kernel_rfl)) (λ_=>rfl) rd9 N
theorem rd32 (N:Nat):Rd enc Tryz.prog W N 32 (λc:Cas=>(zFd c).cells):=
 (rdt Tryz.underlying32 ce32 (λN=>yM rfl ce23 (rd23 N) (yM rfl ce24 (rd24 N) (yM rfl ce25 (rd25 N) (yM rfl ce30 (rd30 N) zGx)))) N).map
  λ⟨a,b,c,d,()⟩=>⟨⟨a,b,c,xSl d⟩,by
   have:=yQf d
   simp only[this,List.append_nil];rfl⟩
theorem xLt (N:Nat):Rd enc Tryz.prog W N 27 (λv:Val=>(vD v).cells):=
 (rd27 N).map λ⟨a,b,c⟩=>⟨⟨a.1,b.1,c⟩,rfl⟩
theorem rd72 (N:Nat):Rd enc Tryz.prog W N 72 (λs:Sl Val=>[sl 3 vD s]):=rds Tryz.underlying72 ce27 (by decide) (of_decide_eq_true (by kernel_rfl)) (λ_=>rfl) xLt N
theorem rd50 (N:Nat):Rd enc Tryz.prog W N 50 (λs:Rows=>[zDy s]):=
 rds Tryz.underlying50 ce72 (by decide) (of_decide_eq_true (by kernel_rfl)) (λa=>by rw[zAh];rfl) (λN=>(rd72 N).map λa=>⟨a,by rw[zAh]⟩) N
theorem rd33 (N:Nat):Rd enc Tryz.prog W N 33 (λs:Sl Rows=>[qI s]):=
 rds Tryz.underlying33 ce50 (by decide) (of_decide_eq_true (by kernel_rfl)) (λa=>by unfold zDy;rw[zAh];rfl) (λN=>(rd50 N).map λa=>⟨a,by unfold zDy;rw[zAh]⟩) N
end
end Go.Eng
namespace Go.Eng
open Go Go.Proofs Go.Proofs.YtggiaoaballdgaaGreatDoor
theorem yQj :zHu (XG GK):=by
 intro g cs h
 have h:GK g=some cs:=h
 unfold GK at h
 split at h
 ·cases h;rfl
 ·cases h
section
variable {H:Type} {enc:TypeId×Value->H} {P:Program} {W:World}
theorem yAg {base fuel t e n:Nat} {spare:Nat->Bool} {held:Bool} (ht:P.underlying t=some (.array n e)) (he:P.underlying e=some (.int .i64)) (hk:P.cellsOf e=1) {cs:List Value} {l:List Int} {ps:List MemPlace}
  (hx:DataW.trod enc P W base spare held fuel t cs=some (.agg (l.map λs=>.lit (.int .i64 s)),ps)):cs.length=P.cellsOf t/\l.length=n/\∀(i:Nat) (s:Int),l[i]?=some s->(cs.drop i).take 1=[.int .i64 s]:=by
 obtain⟨xs,m,_,ex,hlen,hl,hel⟩:=DataW.trod_array ht hx
 have h1:=DataW.agg.inj (congrArg Prod.fst ex)
 have hll:l.length=n:=by
  have:=congrArg List.length h1
  simp at this;omega
 refine⟨hlen,hll,λi s hs=>?_⟩
 have hi:i<n:=by rw[<-hll];exact(List.getElem?_eq_some_iff.1 hs).1
 have h2:=hel i hi
 obtain⟨y,hy⟩:∃y,xs[i]?=some y:=⟨_,List.getElem?_eq_getElem (by omega)⟩
 rw[hy,hk,Nat.mul_one] at h2
 obtain⟨b,e1,hb,_⟩:=DataW.trod_int he h2
 have h5:=congrArg (λz=>z[i]?) h1
 simp only[List.getElem?_map,hs,hy,Option.map_some,hb] at h5
 have h6:s=b:=by
  have:=Option.some.inj h5
  cases this;rfl
 rw[e1,h6]
end
theorem ce165 :Tryz.prog.cellsOf 165=1:=by kernel_rfl
theorem unG :Tryz.prog.underlying 276=some (.array 3 165):=by kernel_rfl
theorem ceG :Tryz.prog.cellsOf 276=3:=by kernel_rfl
theorem zZi {H:Type} {enc:TypeId×Value->H} {W:World} {base fuel:Nat} {spare:Nat->Bool} {held:Bool} {cs:List Value} {ps:List MemPlace}
  (hx:DataW.trod enc Tryz.prog W base spare held fuel 276 cs=some (Rows.laid_disjoint_tribool_values,ps)):xN W Sh0 tvL cs/\cs.length=3:=by
 obtain⟨h1,_,h3⟩:=yAg (l:=[0,2,1]) unG Tryz.underlying165 ce165 hx
 rw[ceG] at h1
 have a0:=h3 0 0 rfl
 have a1:=h3 1 2 rfl
 have a2:=h3 2 1 rfl
 match cs,h1 with
 |[x,y,z],_=>
  simp at a0 a1 a2
  subst a0 a1 a2
  exact⟨(zAf (.int _ _) rfl).append ((zAf (.int _ _) rfl).append (zAf (.int _ _) rfl)),rfl⟩
theorem yEh {W:World} (h:laidMetH Tryz.prog Rows.executorNaiveRow.laid W):yE W Sh0 (.ref tvL 0) (.pointer (some ⟨0,0,none⟩)):=by
 have h:laidMet Tryz.prog Rows.executorNaiveRow.laid W:=h
 obtain⟨ps,⟨g,t,cs,fuel,p,q,h1,h2,h3,h4,_,_⟩,_⟩:=h
 have eg:g=0:=Option.some.inj (h1.symm.trans (show Tryz.prog.globalNamed _=some 0 by kernel_rfl))
 subst eg
 have et:t=276:=Option.some.inj (h2.symm.trans (show (Tryz.prog.globals[0]?).map (·.type)=some 276 by kernel_rfl))
 subst et
 obtain⟨h5,hlen⟩:=zZi h4
 have hc:∀i,W.cell? ⟨0,i,none⟩=cs[i]?:=World.var?_cell h1 h3
 have hsz:cs.size=3:=by simpa using hlen
 obtain⟨v,hv⟩:∃v,cs[0]?=some v:=⟨_,Array.getElem?_eq_getElem (by omega)⟩
 have hlt:0<W.heap.size:=yEb (v:=v) (by rw[hc 0];exact hv)
 refine yE.ref _ 0 0 0 (λj=>(cs[j]?).getD v) h5.cell ⟨hlt,λh=>h,by simp[Sh0],λid k mk h=>by simp[Sh0] at h,⟨_,Nat.le_refl _,trivial⟩⟩ (λj c hj=>?_) (λj c hj=>?_)
 ·have hj6:j<3:=(List.getElem?_eq_some_iff.1 hj).1
  rw[Nat.zero_add,hc,Array.getElem?_eq_getElem (by omega)];rfl
 ·have hj6:j<3:=(List.getElem?_eq_some_iff.1 hj).1
  refine h5.at_ j c _ hj ?_
  rw[Array.getElem?_eq_getElem (by omega)]
  simp[Array.getElem?_eq_getElem (show j<cs.size by omega)]
theorem xLs {W:World} (h:laidMetH Tryz.prog Rows.executorNaiveRow.laid W):yI (XG GK) W.heap.size W Sh0 where
 bbLen:=rfl
 tbLen:=rfl
 mu:=λ_ h=>h.elim
 bbLt:=λb h=>by simp[Sh0] at h
 tbLt:=λid b k h=>by simp[Sh0] at h
 tbInj:=λid id' b k k' h=>by simp[Sh0] at h
 tbBb:=λid b k h=>by simp[Sh0] at h
 tbMu:=λid b k h=>by simp[Sh0] at h
 bbMu:=λb h=>by simp[Sh0] at h
 okNew:=λ_ _ _=>trivial
 okTok:=λ_ _ _ _ _=>trivial
 base:=Nat.le_refl _
 bbGe:=λb h=>by simp[Sh0] at h
 tbGe:=λid b k h=>by simp[Sh0] at h
 bbInj:=λid id' b cs cs' h=>by simp[Sh0] at h
 boxes:=λid b cs h=>by simp[Sh0] at h
 toks:=λid b k mk h=>by simp[Sh0] at h
 glob:=λg cs hg=>by
  have hg:GK g=some cs:=hg
  unfold GK at hg
  split at hg
  ·rename_i e
   have e:g=0:=Nat.eq_of_beq_eq_true e
   subst e
   cases hg
   exact yEh h
  ·cases hg
theorem yKb {f:Nat} (hp:pfT TT f=true) (hf:f % 100000=f) (hy:Nat.ble qQ f=false) {ds:List D} (hs:zH ds=ds) (h:zA (XG GK) TT f ds=some (.bool true)) {W:World} {args:Array Value}
  (hL:laidMetH Tryz.prog Rows.executorNaiveRow.laid W) (ha:HasL W Sh0 ds args.toList) :
  Calls Tryz.prog f args W λe W'=>e=.returned (.bool true)/\RowKit.Below W.heap.size W W':=by
 have h1:zG (XG GK) TT f ⟨[],[]⟩ ds=some (.bool true,⟨[],[]⟩):=by rw[zGi hp hy,hs,h]
 have h2:=yLq (yHx GK yQj) h1 (Q:=λr _=>r=.bool true) rfl
 unfold zMj at h2
 rw[hy] at h2
 simp only[hf] at h2
 refine(h2.2 _ W Sh0 args (xLs hL) rfl ha).mono λe W' ⟨v,S',r,he,hr,_,hx,hv⟩=>?_
 subst hr
 cases hv
 refine⟨he,⟨hx.os,hx.tape,hx.output,hx.size,λk hk=>hx.keep k hk (by simp[Sh0]) (λid k'=>by simp[Sh0]) (.inl hk)⟩⟩
theorem zMr {P:Program} {W:World} {r:Reach} {b t e:Nat} {v:Value} (ht:P.underlying t=some (.slice e)) (h:Value.okWide P W r b t v):v.cells=#[v]:=by
 cases v<;>first|rfl|(simp[Value.okWide,ht,Cell.okWide,Cell.ok] at h)
theorem yOt {P:Program} {W:World} {r:Reach} {b t:Nat} {k:IntKind} {v:Value} (ht:P.underlying t=some (.int k)) (h:Value.okWide P W r b t v):v.cells=#[v]:=by
 cases v<;>first|rfl|(simp[Value.okWide,ht,Cell.okWide,Cell.ok] at h)
theorem yOs {P:Program} {W:World} {r:Reach} {b t:Nat} {v:Value} (ht:P.underlying t=some .string) (h:Value.okWide P W r b t v):v.cells=#[v]:=by
 cases v<;>first|rfl|(simp[Value.okWide,ht,Cell.okWide,Cell.ok] at h)
theorem xBd {H:Type} {enc:TypeId×Value->H} {W:World} {t:Nat} {α:Type} {c:α->D} (h:∀N,Rd enc Tryz.prog W N t λa=>[c a]) {v:Value} (hv:v.cells=#[v]) {d:DataW H} {ps:List MemPlace}
  (hd:DataW.Trod enc Tryz.prog W 0 (λ_=>true) true t v d ps) (hw:∀m∈d.weights Tryz.prog t,m<=reachBytes):∃a,yE W Sh0 (c a) v:=by
 obtain⟨fuel,hd⟩:=hd
 obtain⟨a,ha⟩:=h (fuel+1) fuel _ _ (Nat.lt_succ_self _) hd hw
 rw[hv] at ha
 exact⟨a,ha.at_ 0 _ _ rfl rfl⟩
theorem xGm {w:World} {S:Sh} {a b:D} {x y:Value} (h:yE w S a x) (k:yE w S b y):HasL w S [a,b] (#[x,y]:Array Value).toList:=by
 refine⟨rfl,λj c v hc hv=>?_⟩
 match j,hc,hv with
 |0,hc,hv=>simp at hc hv;subst hc;subst hv;exact h
 |1,hc,hv=>simp at hc hv;subst hc;subst hv;exact k
 |j+2,hc,hv=>simp at hc
theorem yLz :ownKnob Tryz.prog.godebug=none:=by kernel_rfl
theorem zIi :laidOutB Tryz.prog=true:=by kernel_rfl
noncomputable def zRt (os:Os):World:=
 let w0:=World.holding Tryz.prog os ⟨#[],#[],[]⟩
 { w0 with heap:=w0.heap.modify 0 fun
   |.cells _ t frozen=>.cells #[.int .i64 0,.int .i64 2,.int .i64 1] t frozen
   |o=>o }
theorem yKj {w:World} {S:Sh}:HasL w S [] []:=⟨rfl,λj c v hc _=>by cases j<;>cases hc⟩
theorem zRv {w:World} {S:Sh} {a:D} {x:Value} {cs:List D} {vs:List Value} (h:yE w S a x) (k:HasL w S cs vs):HasL w S (a::cs) (x::vs):=by
 refine⟨by simp[k.len],λj c v hc hv=>?_⟩
 match j,hc,hv with
 |0,hc,hv=>simp at hc hv;subst hc;subst hv;exact h
 |j+1,hc,hv=>exact k.at_ j c v (by simpa using hc) (by simpa using hv)
theorem ySm {H:Type} {enc:TypeId×Value->H} {W:World} {t:Nat} {α:Type} {f:α->D} (hf:∀a,∃l,f a=.agg l) (h:∀N,Rd enc Tryz.prog W N t λa=>(f a).cells) {cs:Array Value} {d:DataW H} {ps:List MemPlace}
  (hd:DataW.Trod enc Tryz.prog W 0 (λ_=>true) true t (.agg cs) d ps) (hw:∀m∈d.weights Tryz.prog t,m<=reachBytes):∃a,yE W Sh0 (f a) (.agg cs):=by
 obtain⟨fuel,hd⟩:=hd
 obtain⟨a,ha⟩:=h (fuel+1) fuel _ _ (Nat.lt_succ_self _) hd hw
 refine⟨a,?_⟩
 have ha:xN W Sh0 (f a).cells cs.toList:=ha
 obtain⟨l,hl⟩:=hf a
 rw[hl] at ha ⊢
 have h2:l.length=cs.toList.length:=ha.len
 exact .agg l cs (by simpa using h2) ha.cell λj c v hc hv=>ha.at_ j c v hc (by simpa using hv)
end Go.Eng
namespace Go.Eng
open Go Go.Proofs
open Nat renaming reduceAdd → ra, reduceMul → rb, reduceSub → rc
set_option maxRecDepth 20000
set_option maxHeartbeats 32000000
attribute [local irreducible] wpI xU
variable {G:Nat->Option (List D)}
theorem yKo (a n:Int) (hn:1<=n):zA (XG G) TT 250 [.int .i64 a,.int .i64 n]=some (.int .i64 (flo a n)):=by
 refine zD T250 rfl (by simp only[go_sem]) ?_
 unfold Tryz.f250 xIk
 simp only[Option.getD_some]
 have z:(n==0)=false:=by simp;omega
 simp +decide only[go_sem,ra]
 cases c1:(decide (a.tmod n<0))
 ·refine gw (an z c1) ?_
  simp +decide only[go_sem]
  rw[flo,if_neg (by simpa using c1)]
 ·refine gw (an z c1) ?_
  simp +decide only[go_sem]
  rw[flo,if_pos (by simpa using c1)]
theorem yGe (op:Int) (a:Val) (h:op=3\/op=9):zA (XG G) TT 179 [.int .i64 op,.slice none 3 [vD a]]=some (.int .i64 (if op=3 then wr (0-a.n) else(a.s.length:Int))):=by
 refine zD T179 rfl (by simp only[go_sem]) ?_
 unfold Tryz.f179 xEr
 simp only[Option.getD_some]
 have a0:atI [D.agg [.int .i64 a.k,.int .i64 a.n,.str a.s]] 0=some (.agg [.int .i64 a.k,.int .i64 a.n,.str a.s]):=rfl
 simp +decide only[go_sem,ra]
 by_cases h3:op=3
 ·have e3:(op==3)=true:=by simp[h3]
  rw[if_pos h3]
  refine gw (an a0 e3) ?_
  simp +decide only[go_sem]
 ·have e3:(op==3)=false:=by simp[h3]
  have e9:(op==9)=true:=by simp;omega
  rw[if_neg h3]
  refine gw (an3 a0 e3 e9) ?_
  simp +decide only[go_sem]
theorem yGd (op:Int) (a b:Val) (h:4<=op/\op<=8) (hb:7<=op->1<=b.n):zA (XG G) TT 179 [.int .i64 op,.slice none 3 [vD a,vD b]]=some (.int .i64 (arith op a.n b.n)):=by
 refine zD T179 rfl (by simp only[go_sem]) ?_
 unfold Tryz.f179 xEr
 simp only[Option.getD_some]
 have a0:∀x y:D,atI [x,y] 0=some x:=λ_ _=>rfl
 have a1:∀x y:D,atI [x,y] 1=some y:=λ_ _=>rfl
 have e3:(op==3)=false:=by simp;omega
 have e9:(op==9)=false:=by simp;omega
 simp +decide only[go_sem,ra]
 unfold arith
 by_cases h4:op=4
 ·have f4:(op==4)=true:=by simp[h4]
  rw[if_pos h4]
  refine gw (an5 a0 a1 e3 e9 f4) ?_
  simp +decide only[go_sem]
 have f4:(op==4)=false:=by simp[h4]
 rw[if_neg h4]
 by_cases h5:op=5
 ·have f5:(op==5)=true:=by simp[h5]
  rw[if_pos h5]
  refine gw (an6 a0 a1 e3 e9 f4 f5) ?_
  simp +decide only[go_sem]
 have f5:(op==5)=false:=by simp[h5]
 rw[if_neg h5]
 by_cases h6:op=6
 ·have f6:(op==6)=true:=by simp[h6]
  rw[if_pos h6]
  refine gw (an7 a0 a1 e3 e9 f4 f5 f6) ?_
  simp +decide only[go_sem]
 have f6:(op==6)=false:=by simp[h6]
 rw[if_neg h6]
 have hf:=yKo (G:=G) a.n b.n (hb (by omega))
 by_cases h7:op=7
 ·have f7:(op==7)=true:=by simp[h7]
  rw[if_pos h7]
  refine gw (an9 a0 a1 e3 e9 f4 f5 f6 f7 hf) ?_
  simp +decide only[go_sem]
 have f7:(op==7)=false:=by simp[h7]
 rw[if_neg h7]
 refine gw (an9 a0 a1 e3 e9 f4 f5 f6 f7 hf) ?_
 simp +decide only[go_sem]
theorem yIm (l:List Int) (r:Sl Val) (hr:l.length<=r.items.length) (e:ExR) (h0:e.args.items=[]) (τ:Int) (hw:WT l (tmD e.enc) τ):zA (XG G) TT 128 [e.enc,sl 3 vD r]=some (vD (evV r.items (tmD e.enc))):=by
 rw[xG,h0,List.map_nil] at *
 rw[yYa]
 refine zD T128 rfl (by simp only[go_sem]) ?_
 unfold Tryz.f128 xEu
 simp only[Option.getD_some]
 simp +decide only[go_sem,ra]
 rcases hw.inv0 with⟨h1,_⟩|⟨h2,n,hn,hl,_⟩
 ·have e1:(e.a.1==1)=true:=by simp[h1]
  rw[if_neg (by omega)]
  refine gw e1 ?_
  simp +decide only[go_sem,ra]
 ·have e1:(e.a.1==1)=false:=by simp[h2]
  have e2:(e.a.1==2)=true:=by simp[h2]
  obtain⟨v,hv⟩:=yNv hr hl
  have hv':atI r.items e.b.1=some v:=by rw[hn];exact hv
  rw[if_pos h2,hv']
  refine gw (an3 e1 e2 hv') ?_
  simp +decide only[go_sem,ra]
  rfl
theorem zWo (r:Sl Val) (e:ExR) (h1:e.a.1≠1) (h2:e.a.1≠2) (hl:e.args.items.length<=2) (f:Ex->Val)
  (ih:∀x∈e.args.items,zA (XG G) TT 128 [zM x,sl 3 vD r]=some (vD (f x))) (n:Int)
  (hc:(∀x∈e.args.items,(f x).k≠0)->zA (XG G) TT 179 [.int .i64 e.a.1,wW 3 (e.args.items.map λx=>vD (f x))]=some (.int .i64 n)) :
  zA (XG G) TT 128 [e.enc,sl 3 vD r]=some (vD (if(e.args.items.any λx=>(f x).k==0) then nul else⟨1,n,[]⟩)):=by
 have e1:(e.a.1==1)=false:=by simp[h1]
 have e2:(e.a.1==2)=false:=by simp[h2]
 refine zD T128 rfl (by simp only[go_sem]) ?_
 unfold Tryz.f128 xEu
 simp only[Option.getD_some]
 have hlt:=e.args.lt
 simp +decide only[go_sem,ra]
 refine gw (an e1 e2) ?_
 refine lpC (T:=Nat) [1,2,4,5,23,24,25] (λk=>[(25,.int .i64 (k:Int)),(5,zMm 3 ((e.args.items.take k).map λx=>vD (f x)))]) (λ_=>[]) (λk=>⟨[],zVv ((e.args.items.take k).map λx=>vD (f x))⟩) (λk=>k<=e.args.items.length/\∀x∈e.args.items.take k,(f x).k≠0) (λk=>e.args.items.length-k) 0 (by simp) ?_
 rintro k ⟨hk,hP⟩
 by_cases h:k<e.args.items.length
 ·obtain⟨l_x,x,g_x,w_x⟩:=elm (L:=e.args.items) (k:=k) (by assumption) (by omega)
  have hx:=List.mem_of_getElem? g_x
  have hi:=ih x hx
  obtain⟨q,hq,_⟩:=x.open
  rw[hq] at hi
  simp only[zBg,vT] at hi
  cases k0:((f x).k==0)
  ·have hle:(((e.args.items.take k).map λx=>D.agg [.int .i64 (f x).k,.int .i64 (f x).n,.str (f x).s]).length+1<=16777216)=True:=eq_true (by rw[List.length_map,List.length_take];omega)
   refine gw (an9 e1 e2 l_x g_x w_x hq hi k0 hle) ?_
   refine⟨k+1,?_,⟨by omega,zDg hP g_x (by simpa using k0)⟩,by omega⟩
   rw[List.take_add_one,g_x,List.map_append]
   exact by simp +decide only[go_sem]<;>rfl
  ·have ha:(e.args.items.any λx=>(f x).k==0)=true:=List.any_eq_true.2 ⟨x,hx,k0⟩
   rw[if_pos ha]
   refine gw (an8 e1 e2 l_x g_x w_x hq hi k0) ?_
   simp +decide only[go_sem]
   rfl
 ·have l_x:((k:Int)<((e.args.items).length:Int))=False:=by simp;omega
  rw[List.take_of_length_le (by omega)] at hP ⊢
  have ha:(e.args.items.any λx=>(f x).k==0)=false:=List.any_eq_false.2 λx hx=>by simpa using hP x hx
  have hc:=hc hP
  have hst:zF noR (zMm 3 (e.args.items.map λx=>D.agg [.int .i64 (f x).k,.int .i64 (f x).n,.str (f x).s]))=wW 3 (e.args.items.map λx=>D.agg [.int .i64 (f x).k,.int .i64 (f x).n,.str (f x).s]):=uZ (zL (λx=>D.agg [.int .i64 (f x).k,.int .i64 (f x).n,.str (f x).s]) (λ_=>rfl) _)
  simp only[zBg] at hc
  rw[ha,if_neg (by decide)]
  refine gw (an5 e1 e2 l_x hst hc) ?_
  simp +decide only[go_sem,ra]
theorem zWp (l:List Int) (r:Sl Val) (hr:l.length<=r.items.length):∀(N:Nat) (x:Ex),SizeOf.sizeOf (zM x)<N->∀τ,τ≠3->WT l (tmE x) τ->zA (XG G) TT 128 [zM x,sl 3 vD r]=some (vD (evV r.items (tmE x)))
 |0,x,h,τ,hτ,hw=>absurd h (Nat.not_lt_zero _)
 | N+1,x,h,τ,hτ,hw=>by
  obtain⟨e,he,hs⟩:=x.open
  unfold tmE at hw ⊢
  rw[he] at hw ⊢
  have ih:∀y∈e.args.items,∀t,t≠3->WT l (tmE y) t->zA (XG G) TT 128 [zM y,sl 3 vD r]=some (vD (evV r.items (tmE y))):=λy hy t ht hw=>zWp l r hr N y (by have:=hs y hy;omega) t ht hw
  have hlen:e.args.items.length<=2:=by rw[xG] at hw;simpa using hw.len
  match h0:e.args.items,hlen with
  |[],_=>exact yIm l r hr e h0 τ hw
  | [a],_=>
   have hw':=hw
   rw[xG,h0,List.map_cons,List.map_nil] at hw' ⊢
   rw[yXz]
   obtain⟨t,ht,hc⟩:=hw'.inv1
   have:=zWo (G:=G) r e (by omega) (by omega) (by rw[h0];simp) (λx=>evV r.items (tmE x)) (by rw[h0];intro x hx;rw[List.mem_singleton.1 hx];exact ih a (by simp[h0]) t (by omega) ht) (if e.a.1=3 then wr (0-(evV r.items (tmE a)).n) else((evV r.items (tmE a)).s.length:Int)) (by
    rw[h0];intro _
    exact yGe e.a.1 _ (by omega))
   rw[this,h0]
   simp only[List.any_cons,List.any_nil,Bool.or_false,beq_iff_eq]
  | [a,b],_=>
   have hw':=hw
   rw[xG,h0,List.map_cons,List.map_cons,List.map_nil] at hw' ⊢
   rw[yXy]
   obtain⟨t,u,ht,hu,hc⟩:=hw'.inv2
   have hA:(4<=e.a.1/\e.a.1<=8)/\(t=0\/t=1)/\(u=0\/u=1)/\(7<=e.a.1->1<=(evV r.items (tmE b)).n):=by
    rcases hc with h|h|h|h
    ·exact⟨⟨h.1,h.2.1⟩,h.2.2.2.1,h.2.2.2.2.1,λh7=>by obtain⟨n,h1,_,h2⟩:=h.2.2.2.2.2 h7;rw[h2];exact h1⟩
    ·exact absurd h.2.2.1 hτ
    ·exact absurd h.2.1 hτ
    ·exact absurd h.2.1 hτ
   clear hc
   obtain⟨hop,ht3,hu3,hd⟩:=hA
   have ht3:t≠3:=by omega
   have hu3:u≠3:=by omega
   have:=zWo (G:=G) r e (by omega) (by omega) (by rw[h0];simp) (λx=>evV r.items (tmE x)) (by
    rw[h0];intro x hx
    rcases List.mem_cons.1 hx with rfl|hx
    ·exact ih x (by simp[h0]) t ht3 ht
    ·rw[List.mem_singleton.1 hx];exact ih b (by simp[h0]) u hu3 hu) (arith e.a.1 (evV r.items (tmE a)).n (evV r.items (tmE b)).n) (by
    rw[h0];intro _
    exact yGd e.a.1 _ _ hop hd)
   rw[this,h0]
   simp only[List.any_cons,List.any_nil,Bool.or_false,Bool.or_eq_true,beq_iff_eq]
   by_cases k0:(evV r.items (tmE a)).k=0
   ·rw[if_pos (.inl k0),if_pos k0]
   ·by_cases k1:(evV r.items (tmE b)).k=0
    ·rw[if_pos (.inr k1),if_neg k0,if_pos k1]
    ·rw[if_neg (by omega),if_neg k0,if_neg k1]
theorem yYi (l:List Int) (r:Sl Val) (hr:l.length<=r.items.length) (x:Ex) (τ:Int) (hτ:τ≠3) (hw:WT l (tmE x) τ):zA (XG G) TT 128 [zM x,sl 3 vD r]=some (vD (evV r.items (tmE x))):=zWp l r hr _ x (Nat.lt_succ_self _) τ hτ hw
end Go.Eng
