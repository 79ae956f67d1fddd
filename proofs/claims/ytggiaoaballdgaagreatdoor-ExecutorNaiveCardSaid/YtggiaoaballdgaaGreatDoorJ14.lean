/- A part of the proof: see the last text. -/
import Derived.Test.YtggiaoaballdgaaGreatDoorJ13
set_option linter.unusedSimpArgs false
set_option linter.unusedVariables false
namespace Go.Eng
open Go Go.Proofs
open Nat renaming reduceAdd → ra, reduceMul → rb, reduceSub → rc
set_option maxRecDepth 20000
set_option maxHeartbeats 32000000
attribute [local irreducible] wpI xU
variable {G:Nat->Option (List D)}
theorem yRh (cs:List D) (i:Nat) (v:D) (hi:i<=cs.length):(zGo cs i v).length=cs.length+1:=by
 unfold zGo;rw[List.length_append,List.length_take,List.length_cons,List.length_drop];omega
theorem yCl {m:Mem} {d:D} {cs:List D} {i:Nat} {v:D} (h:qR m d cs) (hi:i<=cs.length) (hl:cs.length<=1000) (hv:v.isO=false) :
  ∃d' m',yBf m d i v=some (d',m')/\qR m' d' (zGo cs i v)/\d'=.rsl m.boxes.length 0 (cs.length+1) 1/\m'.boxes.length=m.boxes.length+1/\m'.toks=m.toks/\∀id,id<m.boxes.length->id∉uU d->m'.boxes[id]?=m.boxes[id]?:=by
 rcases h.inv with⟨rfl,rfl⟩|⟨id,rfl,hb,hn,ho⟩
 ·obtain rfl:i=0:=by simpa using hi
  refine⟨.rsl m.boxes.length 0 1 1,{ m with boxes:=m.boxes++[[v]] },rfl,?_,rfl,by simp,rfl,λid h _=>List.getElem?_append_left h⟩
  have:zGo [] 0 v=[v]:=rfl
  rw[this]
  exact .box _ [v] (by simp) (by simp) hv
 ·have hlt:=(List.getElem?_eq_some_iff.1 hb).1
  have hpos:0<cs.length:=List.length_pos_iff.2 hn
  refine⟨.rsl m.boxes.length 0 (cs.length+1) 1,{ m with boxes:=m.boxes.set id []++[zGo cs i v] },?_,?_,rfl,by simp,rfl,λj h hj=>?_⟩
  ·simp only[yBf,wQ hb ho]
   simp[hpos,hi,hl]
  ·have hlen:=yRh cs i v hi
   rw[<-hlen]
   refine .box _ (zGo cs i v) ?_ (λe=>by rw[e] at hlen;simp at hlen) ?_
   ·show (m.boxes.set id []++[zGo cs i v])[m.boxes.length]?=_
    rw[List.getElem?_append_right (by simp)];simp
   ·match hc:zGo cs i v,hlen with
    |[],h=>simp at h
    |[a],h=>exact absurd h (by simp only[List.length_singleton];omega)
    |a::b::r,_=>rfl
  ·have hj:j≠id:=λe=>hj (by simp[uU,e])
   show (m.boxes.set id []++[zGo cs i v])[j]?=_
   rw[List.getElem?_append_left (by simpa using h),List.getElem?_set_ne (λe=>hj e.symm)]
@[go_sem] theorem m0Of_eq' (F:Fi) (id:Nat) (st:St):yHd F id st=match wX F.bad (id+1000000) with
 |true=>zVp (zFb st.sl F.ext) st.m
 |false=>st.m:=rfl
@[go_sem] theorem xFo (sl:Nat->D):zFb sl []=[]:=rfl
@[go_sem] theorem xCh (sl:Nat->D) (x:Nat) (r:List Nat):zFb sl (x::r)=match sl x with|.ptr id _=>id::zFb sl r|_=>zFb sl r:=rfl
theorem yMs {l:List Nat} {m:Mem} {id:Nat} {cs:List D} (hl:wX l id=true) (h:m.boxes[id]?=some cs):(zVp l m).boxes[id]?=some cs:=by
 unfold zVp
 simp only[zLb,Nat.zero_add,h,hl,Option.map_some]
theorem zOl {l:List Nat} {m m':Mem} (h:∀id,wX l id=true->id<m.boxes.length->m'.boxes[id]?=m.boxes[id]?):Sub (zVp l m) m':=by
 intro i cs hc
 rw[zYk] at hc
 cases hl:wX l i with
 |false=>rw[hl] at hc;cases hc
 |true=>
  rw[hl] at hc
  have hc:uN m i=some cs:=hc
  have hi:=(List.getElem?_eq_some_iff.1 (yC hc).1).1
  exact wQ (by rw[h i hl hi];exact(yC hc).1) (yC hc).2
theorem zAn {m m':Mem} (h:Sub m m') (Q P:Prop):((Q\/Sub m m')/\P)=P:=propext ⟨λa=>a.2,λa=>⟨.inr h,a⟩⟩
@[go_sem] theorem xVv :pfT TT 221=false:=by kernel_rfl
@[go_sem] theorem xVx :pfT TT 215=false:=by kernel_rfl
structure TrN (m:Mem) (T:TrL) (n:Nat):Prop where
 tr:∃ks vs,TrS m T ks vs/\ks.length<=n
 nd:T.ids.Nodup
theorem yRj {x:Str} {ks:List Str} (i:Nat):zGo (ks.map D.str) i (.str x)=(ks.take i++x::ks.drop i).map D.str:=by
 unfold zGo;rw[List.map_append,List.map_cons,List.map_take,List.map_drop]
theorem yKg {x:Int} {ks:List Int} (i:Nat):zGo (ks.map (D.int .i64)) i (.int .i64 x)=(ks.take i++x::ks.drop i).map (D.int .i64):=by
 unfold zGo;rw[List.map_append,List.map_cons,List.map_take,List.map_drop]
theorem yZf (m:Mem) (t r:Nat) (kd vd:D) (ks:List Str) (vs:List Int) (x:Str) (n:Int) (h:TrS m ⟨t,r,kd,vd⟩ ks vs) (hnd:(TrL.mk t r kd vd).ids.Nodup) (hl:ks.length<=900) :
  ∃m' T' a b,zG (XG G) TT 153 m [.ptr t 0,.ptr r 0,.str x,.int .i64 n]=some (.tuple [.int .i64 a,.bool b],m')/\T'.t=t/\T'.r=r/\TrN m' T' (ks.length+1)/\Fr (TrL.mk t r kd vd).ids T'.ids [] [] m m'/\m'.toks=m.toks/\m'.boxes[t]?=m.boxes[t]?:=by
 have hr:m.boxes[r]?=some [kd,vd,.nil]:=h.hr
 obtain⟨i,b,hf,hi,hb⟩:=yRr (G:=G) m r kd vd ks x hr h.hk (by omega)
 have hleaf:=yRc (G:=G) m r kd vd hr
 obtain⟨c,ht⟩:∃c:Int,m.boxes[t]?=some [.ptr r 0,.int .i64 16,.int .i64 c]:=h.ht
 have hnd':=hnd
 simp only[TrL.ids,List.nodup_cons,List.mem_cons,List.mem_append,List.nodup_append] at hnd'
 have hkt:t∉uU kd/\t∉uU vd/\r∉uU kd/\r∉uU vd:=
  ⟨λe=>hnd'.1 (.inr (.inl e)),λe=>hnd'.1 (.inr (.inr e)),λe=>hnd'.2.1 (.inl e),λe=>hnd'.2.1 (.inr e)⟩
 have hrt:t≠r:=λe=>hnd'.1 (.inl e)
 have hlt:=h.lt
 have hnt:t<m.boxes.length:=hlt _ (by simp[TrL.ids])
 have hnr:r<m.boxes.length:=hlt _ (by simp[TrL.ids])
 obtain⟨kd1,m1,hi1,hk1,rfl,hl1,ht1,hkeep1⟩:=yCl (v:=D.str x) h.hk (i:=i) (by rw[List.length_map];exact hi) (by rw[List.length_map];omega) rfl
 have hc1:=xAd (G:=G) m kd i x _ m1 hi1
 have hv1:qR m1 vd (vs.map (D.int .i64)):=h.hv.keep λid hid=>hkeep1 id (h.hv.lt id hid) λe=>hnd'.2.2.2.2 id e id hid rfl
 obtain⟨vd1,m2,hi2,hk2,rfl,hl2,ht2,hkeep2⟩:=yCl (v:=D.int .i64 n) hv1 (i:=i) (by rw[List.length_map,<-h.len];exact hi) (by rw[List.length_map,<-h.len];omega) rfl
 have hc2:=yNh (G:=G) m1 vd i n _ m2 hi2
 have g0:(zVp [t,r] m).boxes[r]?=some [kd,vd,.nil]:=yMs (by simp[wX]) hr
 have g1:∀Q P:Prop,((Q\/Sub (zVp [t,r] m) m1)/\P)=P:=zAn (zOl λid hid hl=>by
  simp[wX] at hid
  rcases hid with rfl|rfl
  ·exact hkeep1 _ hl hkt.1
  ·exact hkeep1 _ hl hkt.2.2.1)
 have q1r:m1.boxes[r]?=some [kd,vd,.nil]:=by rw[hkeep1 _ hnr hkt.2.2.1];exact hr
 have q2r:m2.boxes[r]?=some [kd,vd,.nil]:=by rw[hkeep2 _ (by omega) hkt.2.2.2];exact q1r
 have g2:∀Q P:Prop,((Q\/Sub (zVp [t,r] m) m2)/\P)=P:=zAn (zOl λid hid hl=>by
  simp[wX] at hid
  rcases hid with rfl|rfl
  ·rw[hkeep2 _ (by omega) hkt.2.1,hkeep1 _ hl hkt.1]
  ·rw[q2r,hr])
 have hm2:r<m2.boxes.length:=by omega
 have g3:∀a,(m2.boxes.set r a)[r]?=some a:=λa=>by rw[List.getElem?_set_self hm2]
 have g4:∀a b,(m2.boxes.set r a).set r b=m2.boxes.set r b:=λa b=>by rw[List.set_set]
 suffices hh:∃v m',zG (XG G) TT 153 m [.ptr t 0,.ptr r 0,.str x,.int .i64 n]=some (v,m')/\∃T' a b,v=.tuple [.int .i64 a,.bool b]/\T'.t=t/\T'.r=r/\TrN m' T' (ks.length+1)/\Fr (TrL.mk t r kd vd).ids T'.ids [] [] m m'/\m'.toks=m.toks/\m'.boxes[t]?=m.boxes[t]? by
  obtain⟨v,m',h1,T',a,b,rfl,h2⟩:=hh;exact⟨m',T',a,b,h1,h2⟩
 refine zO T153 rfl ?_
 unfold Tryz.f153 xJz
 simp only[Option.getD_some]
 simp +decide only[go_sem,ra,ht]
 cases b with
 | true=>
  have hi':=hb rfl
  have hki:(ks.map D.str).length=ks.length:=List.length_map ..
  have hvi:(vs.map (D.int .i64)).length=vs.length:=List.length_map ..
  have hvs:=h.len
  rcases h.hk.inv with⟨_,hn⟩|⟨ik,hkd,hkb,_,hko⟩
  ·rw[hn] at hki;simp at hki;omega
  rcases h.hv.inv with⟨_,hn⟩|⟨iv,hvd,hvb,_,hvo⟩
  ·rw[hn] at hvi;simp at hvi;omega
  obtain⟨y,hy⟩:∃y,vs[i]?=some y:=⟨_,List.getElem?_eq_getElem (by omega)⟩
  have hy':(vs.map (D.int .i64))[i]?=some (.int .i64 y):=by rw[List.getElem?_map,hy];rfl
  have l1:((i:Int)<(vs.length:Int))=True:=eq_true (by omega)
  have l2:((i:Int)<(ks.length:Int))=True:=eq_true (by omega)
  have hkv:ik≠iv:=by
   have:=hnd'.2.2.2.2
   subst hkd hvd
   exact this ik (by simp[uU]) iv (by simp[uU])
  have l3:(i+1<=ks.length)=True:=eq_true (by omega)
  have l4:(i+1<=vs.length)=True:=eq_true (by omega)
  have l5:∀a,(m.boxes.set ik a)[iv]?=m.boxes[iv]?:=λa=>List.getElem?_set_ne hkv
  subst hkd hvd
  refine gw (an9 hf hleaf hr ht hc1 hc2 g0 g1 (an9 g2 q2r g3 g4 hkb hvb hko hvo (an8 hy' l1 l2 hki hvi l3 l4 l5))) ?_
  simp +decide only[go_sem]
  have hlk:ik<m.boxes.length:=(List.getElem?_eq_some_iff.1 hkb).1
  have hlv:iv<m.boxes.length:=(List.getElem?_eq_some_iff.1 hvb).1
  have hik:t≠ik/\t≠iv/\r≠ik/\r≠iv:=by
   simp only[uU,List.mem_singleton] at hkt;exact hkt
  have hok:∀id,id≠ik->id≠iv->((m.boxes.set ik ((ks.map D.str).set i (.str x))).set iv ((vs.map (D.int .i64)).set i (.int .i64 n)))[id]?=m.boxes[id]?:=λid h1 h2=>by
   rw[List.getElem?_set_ne (λe=>h2 e.symm),List.getElem?_set_ne (λe=>h1 e.symm)]
  refine⟨⟨t,r,_,_⟩,_,_,rfl,rfl,rfl,⟨⟨ks.set i x,vs.set i n,⟨⟨c,?_⟩,?_,?_,?_,?_⟩,?_⟩,hnd⟩,⟨?_,Nat.le_refl _,?_,?_,λ_ h=>.inl h,λ_ h=>.inl h⟩,trivial,?_⟩
  ·exact(hok _ hik.1 hik.2.1).trans ht
  ·exact(hok _ hik.2.2.1 hik.2.2.2).trans hr
  ·rw[show (ks.map D.str).length=((ks.set i x).map D.str).length by simp]
   refine .box ik _ ?_ ?_ (zOn (λ_=>rfl) _)
   ·show ((m.boxes.set ik ((ks.map D.str).set i (.str x))).set iv ((vs.map (D.int .i64)).set i (.int .i64 n)))[ik]?=_
    rw[List.getElem?_set_ne (λe=>hkv e.symm),List.getElem?_set_self hlk,List.map_set]
   ·intro e;have:=congrArg List.length e;rw[List.length_map,List.length_set,List.length_nil] at this;omega
  ·rw[show (vs.map (D.int .i64)).length=((vs.set i n).map (D.int .i64)).length by simp]
   refine .box iv _ ?_ ?_ (zOn (λ_=>rfl) _)
   ·show ((m.boxes.set ik ((ks.map D.str).set i (.str x))).set iv ((vs.map (D.int .i64)).set i (.int .i64 n)))[iv]?=_
    rw[List.getElem?_set_self (by rw[List.length_set];exact hlv),List.map_set]
   ·intro e;have:=congrArg List.length e;rw[List.length_map,List.length_set,List.length_nil] at this;omega
  ·simp[hvs]
  ·simp
  ·simp
  ·intro id _ h2
   simp only[TrL.ids,uU,List.mem_cons,List.mem_append,List.not_mem_nil,or_false,not_or] at h2
   exact hok id h2.2.2.1 h2.2.2.2
  ·intro id _ _;rfl
  ·exact(hok _ hik.1 hik.2.1).trans ht
 | false=>
  refine gw (an9 hf hleaf hr ht hc1 hc2 g0 g1 (an4 g2 q2r g3 g4)) ?_
  simp +decide only[go_sem]
  have hok:∀id,id<m.boxes.length->id∉(TrL.mk t r kd vd).ids->m2.boxes[id]?=m.boxes[id]?:=λid h1 h2=>by
   simp only[TrL.ids,List.mem_cons,List.mem_append,not_or] at h2
   rw[hkeep2 _ (by omega) h2.2.2.2,hkeep1 _ h1 h2.2.2.1]
  have hset:∀a id,id≠r->(m2.boxes.set r a)[id]?=m2.boxes[id]?:=λa id h=>List.getElem?_set_ne (λe=>h e.symm)
  have hvk:m.boxes.length∉uU vd:=λe=>absurd (h.hv.lt _ e) (Nat.lt_irrefl _)
  have h2t:m2.boxes[t]?=m.boxes[t]?:=by rw[hkeep2 _ (by omega) hkt.2.1,hkeep1 _ hnt hkt.1]
  refine⟨⟨t,r,.rsl m.boxes.length 0 ((ks.map D.str).length+1) 1,.rsl m1.boxes.length 0 ((vs.map (D.int .i64)).length+1) 1⟩,_,_,rfl,rfl,rfl,⟨⟨ks.take i++x::ks.drop i,vs.take i++n::vs.drop i,⟨⟨c,?_⟩,?_,?_,?_,?_⟩,?_⟩,?_⟩,⟨?_,?_,?_,?_,?_,λ_ h=>.inl h⟩,?_,?_⟩
  ·exact(hset _ _ hrt).trans (h2t.trans ht)
  ·exact g3 _
  ·rw[<-yRj]
   exact(hk1.keep (m':=m2) λid hid=>by simp[uU] at hid;subst hid;exact hkeep2 _ (by omega) hvk).keep λid hid=>by simp[uU] at hid;subst hid;exact hset _ _ (by omega)
  ·rw[<-yKg]
   exact hk2.keep λid hid=>by simp[uU] at hid;subst hid;exact hset _ _ (by omega)
  ·have:=h.len
   simp only[List.length_append,List.length_take,List.length_cons,List.length_drop];omega
  ·simp only[List.length_append,List.length_take,List.length_cons,List.length_drop];omega
  ·simp only[TrL.ids,uU,List.nodup_cons,List.mem_cons,List.cons_append,List.nil_append,List.not_mem_nil,or_false,not_or,List.nodup_nil,and_true,not_false_iff]
   exact⟨⟨hrt,by omega,by omega⟩,⟨by omega,by omega⟩,by omega⟩
  ·show m.boxes.length<=(m2.boxes.set r _).length
   rw[List.length_set];omega
  ·show m.toks.length<=m2.toks.length
   rw[ht2,ht1];exact Nat.le_refl _
  ·intro id h1 h2
   have h3:id≠r:=λe=>h2 (by simp[TrL.ids,e])
   exact(hset _ _ h3).trans (hok id h1 h2)
  ·intro id _ _
   show m2.toks[id]?=_
   rw[ht2,ht1]
  ·intro id hid
   simp only[TrL.ids,uU,List.mem_cons,List.cons_append,List.nil_append,List.not_mem_nil,or_false] at hid
   rcases hid with rfl|rfl|rfl|rfl
   ·exact .inl (by simp[TrL.ids])
   ·exact .inl (by simp[TrL.ids])
   ·exact .inr (Nat.le_refl _)
   ·exact .inr (by omega)
  ·show m2.toks=_
   rw[ht2,ht1]
  ·exact(hset _ _ hrt).trans (h2t.trans ht)
theorem TrN.keep {m m':Mem} {T:TrL} {n:Nat} (h:TrN m T n) (k:∀id∈T.ids,m'.boxes[id]?=m.boxes[id]?):TrN m' T n:=by
 obtain⟨⟨ks,vs,h1,h2⟩,h3⟩:=h
 exact⟨⟨ks,vs,h1.keep k,h2⟩,h3⟩
theorem TrN.lt {m:Mem} {T:TrL} {n:Nat} (h:TrN m T n):∀id∈T.ids,id<m.boxes.length:=by
 obtain⟨⟨ks,vs,h1,h2⟩,h3⟩:=h
 exact h1.lt
theorem TrN.count {m:Mem} {T:TrL} {n:Nat} (h:TrN m T n) (c:Int):TrN ⟨m.boxes.set T.t [.ptr T.r 0,.int .i64 16,.int .i64 c],m.toks⟩ T n:=by
 have hlt:=h.lt
 obtain⟨⟨ks,vs,h1,h2⟩,h3⟩:=h
 have hnd:=h3
 simp only[TrL.ids,List.nodup_cons,List.mem_cons,List.mem_append,not_or] at hnd
 have hk:∀id,id≠T.t->(m.boxes.set T.t [.ptr T.r 0,.int .i64 16,.int .i64 c])[id]?=m.boxes[id]?:=λid h=>List.getElem?_set_ne (λe=>h e.symm)
 refine⟨⟨ks,vs,⟨⟨c,?_⟩,?_,?_,?_,h1.len⟩,h2⟩,h3⟩
 ·exact List.getElem?_set_self (hlt _ (by simp[TrL.ids]))
 ·exact(hk _ (λe=>hnd.1.1 e.symm)).trans h1.hr
 ·exact h1.hk.keep λid hid=>hk _ λe=>hnd.1.2.1 (e▸hid)
 ·exact h1.hv.keep λid hid=>hk _ λe=>hnd.1.2.2 (e▸hid)
theorem xLu (m:Mem) (T:TrL) (n:Nat) (x:Str) (v:Int) (h:TrN m T n) (hn:n<15) :
  ∃d m' T',zG (XG G) TT 91 m [.ptr T.t 0,.str x,.int .i64 v]=some (d,m')/\T'.t=T.t/\TrN m' T' (n+1)/\Fr T.ids T'.ids [] [] m m'/\m'.toks=m.toks:=by
 obtain⟨⟨ks,vs,h1,h2⟩,h3⟩:=h
 obtain⟨t,r,kd,vd⟩:=T
 obtain⟨m1,T1,a,b,hc,ht1,hr1,hT1,hF1,htk,hbt⟩:=yZf (G:=G) m t r kd vd ks vs x v h1 h3 (by omega)
 obtain⟨t1,r1,kd1,vd1⟩:=T1
 obtain rfl:t1=t:=ht1
 obtain rfl:r1=r:=hr1
 have hN:=hT1
 have hlt:=hT1.lt
 obtain⟨⟨ks1,vs1,g1,g2⟩,g3⟩:=hT1
 obtain⟨c,hc0⟩:∃c:Int,m.boxes[t1]?=some [.ptr r1 0,.int .i64 16,.int .i64 c]:=h1.ht
 have hc1:m1.boxes[t1]?=some [.ptr r1 0,.int .i64 16,.int .i64 c]:=hbt.trans hc0
 have hr1:m1.boxes[r1]?=some [kd1,vd1,.nil]:=g1.hr
 have hln:=g1.hk.lenT
 have hml:(ks1.map D.str).length=ks1.length:=List.length_map ..
 have hw:((16:Int)<=(ks1.length:Int))=False:=eq_false (by omega)
 have hnt:t1<m1.boxes.length:=hlt _ (by simp[TrL.ids])
 suffices hh:∃d m',zG (XG G) TT 91 m [.ptr t1 0,.str x,.int .i64 v]=some (d,m')/\∃T':TrL,T'.t=t1/\TrN m' T' (n+1)/\Fr (TrL.mk t1 r1 kd vd).ids T'.ids [] [] m m'/\m'.toks=m.toks by
  obtain⟨d,m',q,T',r⟩:=hh;exact⟨d,m',T',q,r⟩
 refine zO T91 rfl ?_
 unfold Tryz.f91 F91
 simp only[Option.getD_some]
 simp +decide only[go_sem,ra]
 cases b with
 |true=>
  refine gw (an7 hc0 hc hc1 hr1 hln hml hw) ?_
  simp +decide only[go_sem]
  exact⟨⟨t1,r1,kd1,vd1⟩,rfl,⟨⟨ks1,vs1,g1,by omega⟩,g3⟩,hF1,htk⟩
 | false=>
  refine gw (an7 hc0 hc hc1 hr1 hln hml hw) ?_
  simp +decide only[go_sem]
  have hN':TrN m1 ⟨t1,r1,kd1,vd1⟩ (n+1):=⟨⟨ks1,vs1,g1,by omega⟩,g3⟩
  refine⟨⟨t1,r1,kd1,vd1⟩,rfl,hN'.count _,⟨?_,hF1.tlen,?_,hF1.tkeep,hF1.sub,λ_ h=>.inl h⟩,htk⟩
  ·show m.boxes.length<=(m1.boxes.set t1 _).length
   rw[List.length_set];exact hF1.len
  ·intro id q1 q2
   have:id≠t1:=λe=>q2 (by simp[TrL.ids,e])
   exact(List.getElem?_set_ne (λe=>this e.symm)).trans (hF1.keep id q1 q2)
end Go.Eng
