/- A part of the proof: see the last text. -/
import Derived.Test.YtggiaoaballdgaaGreatDoorJ14
import Derived.Test.YtggiaoaballdgaaGreatDoorJ12
set_option linter.unusedSimpArgs false
set_option linter.unusedVariables false
namespace Go.Eng
open Go Go.Proofs
open Nat renaming reduceAdd → ra, reduceMul → rb, reduceSub → rc
set_option maxRecDepth 20000
set_option maxHeartbeats 32000000
attribute [local irreducible] wpI xU
variable {G:Nat->Option (List D)}
def vdR (tok:Nat) (rows:List D):D:=match rows with|[]=>.nil|_::_=>.slice (some (tok+1)) 1 rows
def tkR (tok:Nat) (rows:List D):List Nat:=match rows with|[]=>[]|_::_=>[tok]
theorem xAe (m:Mem) (tok:Nat) (rows:List D) (row:D) (hl:rows.length<=900) (ht:rows≠[]->m.toks[tok]?=some rows.length) :
  ∃tok' m',zG (XG G) TT 216 m [vdR tok rows,.int .i64 (rows.length:Int),.slice (some 0) 1 [row]]=some (.slice (some (tok'+1)) 1 (rows++[row]),m')/\m'.toks[tok']?=some (rows.length+1)/\m'.boxes=m.boxes/\Fr [] [] (tkR tok rows) [tok'] m m':=by
 suffices hh:∃d m',zG (XG G) TT 216 m [vdR tok rows,.int .i64 (rows.length:Int),.slice (some 0) 1 [row]]=some (d,m')/\∃tok',d=.slice (some (tok'+1)) 1 (rows++[row])/\m'.toks[tok']?=some (rows.length+1)/\m'.boxes=m.boxes/\Fr [] [] (tkR tok rows) [tok'] m m' by
  obtain⟨d,m',q,tok',rfl,r⟩:=hh;exact⟨tok',m',q,r⟩
 refine zO T216 rfl ?_
 unfold Tryz.f216 xIy
 simp only[Option.getD_some]
 have e1:(((1:Nat):Int)==0)=false:=rfl
 have e2:(((0:Nat):Int)==0)=true:=rfl
 simp +decide only[go_sem,ra]
 cases rows with
 |nil=>
  simp only[vdR,List.length_nil]
  have ha:zZ 1 m .nil [row]=some (.slice (some (m.toks.length+1)) 1 [row],{ m with toks:=m.toks++[1] }):=rfl
  refine gw (an3 e1 e2 ha) ?_
  simp +decide only[go_sem]
  refine⟨m.toks.length,rfl,?_,trivial,⟨Nat.le_refl _,?_,λ_ _ _=>rfl,?_,λ_ h=>.inl h,?_⟩⟩
  ·simp
  ·simp
  ·intro id q _;exact List.getElem?_append_left q
  ·intro id q;simp at q;exact .inr (by omega)
 | cons a r=>
  have ht:=ht (by simp)
  simp only[vdR]
  have hln:(a::r).length=r.length+1:=rfl
  have hne:tkR tok (a::r)=[tok]:=rfl
  rw[hne]
  generalize a::r=l at *
  have htk:=(List.getElem?_eq_some_iff.1 ht).1
  have ha:zZ 1 m (.slice (some (tok+1)) 1 l) [row]=some (.slice (some (tok+1)) 1 (l++[row]),{ m with toks:=m.toks.set tok (l++[row]).length }):=by simp[zZ,ht]
  have f1:((l.length:Int)<=(l.length:Int))=True:=eq_true (Int.le_refl _)
  have f2:((l.length:Int)==(l.length:Int))=true:=by simp
  have f3:(l.length+1<=16777216)=True:=eq_true (by omega)
  refine gw (an6 e1 e2 ha f1 f2 f3) ?_
  simp +decide only[go_sem]
  refine⟨tok,rfl,?_,trivial,⟨Nat.le_refl _,?_,λ_ _ _=>rfl,?_,λ_ h=>.inl h,λ_ h=>.inl h⟩⟩
  ·show (m.toks.set tok (l++[row]).length)[tok]?=_
   rw[List.getElem?_set_self htk,List.length_append];rfl
  ·show m.toks.length<=(m.toks.set tok _).length
   rw[List.length_set];exact Nat.le_refl _
  ·intro id h1 h2
   simp only[List.mem_singleton] at h2
   exact List.getElem?_set_ne (λe=>h2 e.symm)
def zJe :Nat->List Int
 |0=>[]
 |n+1=>zJe n++[((n+1:Nat):Int)]
theorem vL :∀n,(zJe n).length=n
 |0=>rfl
 |n+1=>by rw[zJe,List.length_append,vL n];rfl
theorem zOm :∀n,∀y∈zJe n,y<((n+1:Nat):Int)
 |0,y,h=>by cases h
 |n+1,y,h=>by
  rw[zJe,List.mem_append] at h
  rcases h with h|h
  ·have:=zOm n y h;omega
  ·simp at h;omega
structure TrR (m:Mem) (T:TrL) (tok:Nat) (rows:List D):Prop where
 ht:∃c:Int,m.boxes[T.t]?=some [.ptr T.r 0,.int .i64 16,.int .i64 c]
 hr:m.boxes[T.r]?=some [T.kd,T.vd,.nil]
 hk:qR m T.kd ((zJe rows.length).map (D.int .i64))
 hv:T.vd=vdR tok rows
 tk:rows≠[]->m.toks[tok]?=some rows.length
 nd:T.ids.Nodup
theorem zJx (tok:Nat) (rows:List D):uU (vdR tok rows)=[]:=by cases rows<;>rfl
theorem zKa {tok:Nat} {rows:List D} (h:rows≠[]):tok∈tkR tok rows:=by
 cases rows with
 |nil=>exact absurd rfl h
 |cons a r=>simp[tkR]
theorem TrR.keep {m m':Mem} {T:TrL} {tok:Nat} {rows:List D} (h:TrR m T tok rows) (k:∀id∈T.ids,m'.boxes[id]?=m.boxes[id]?) (kt:∀id∈tkR tok rows,m'.toks[id]?=m.toks[id]?):TrR m' T tok rows where
 ht:=by obtain⟨c,hc⟩:=h.ht;exact⟨c,by rw[k _ (by simp[TrL.ids])];exact hc⟩
 hr:=by rw[k _ (by simp[TrL.ids])];exact h.hr
 hk:=h.hk.keep λid hi=>k id (by simp[TrL.ids,hi])
 hv:=h.hv
 tk hn:=by rw[kt _ (zKa hn)];exact h.tk hn
 nd:=h.nd
theorem TrR.lt {m:Mem} {T:TrL} {tok:Nat} {rows:List D} (h:TrR m T tok rows):∀id∈T.ids,id<m.boxes.length:=by
 intro id hi
 simp only[TrL.ids,List.mem_cons,List.mem_append] at hi
 rcases hi with rfl|rfl|hi|hi
 ·obtain⟨c,hc⟩:=h.ht;exact(List.getElem?_eq_some_iff.1 hc).1
 ·exact(List.getElem?_eq_some_iff.1 h.hr).1
 ·exact h.hk.lt id hi
 ·rw[h.hv,zJx] at hi;cases hi
theorem TrR.tlt {m:Mem} {T:TrL} {tok:Nat} {rows:List D} (h:TrR m T tok rows):∀id∈tkR tok rows,id<m.toks.length:=by
 intro id hi
 cases rows with
 |nil=>cases hi
 |cons a r=>
  simp[tkR] at hi
  subst hi
  exact(List.getElem?_eq_some_iff.1 (h.tk (by simp))).1
theorem TrR.count {m:Mem} {T:TrL} {tok:Nat} {rows:List D} (h:TrR m T tok rows) (c:Int):TrR ⟨m.boxes.set T.t [.ptr T.r 0,.int .i64 16,.int .i64 c],m.toks⟩ T tok rows:=by
 have hlt:=h.lt
 have hnd:=h.nd
 simp only[TrL.ids,List.nodup_cons,List.mem_cons,List.mem_append,not_or] at hnd
 have hk:∀id,id≠T.t->(m.boxes.set T.t [.ptr T.r 0,.int .i64 16,.int .i64 c])[id]?=m.boxes[id]?:=λid h=>List.getElem?_set_ne (λe=>h e.symm)
 refine⟨⟨c,?_⟩,?_,?_,h.hv,h.tk,h.nd⟩
 ·exact List.getElem?_set_self (hlt _ (by simp[TrL.ids]))
 ·exact(hk _ (λe=>hnd.1.1 e.symm)).trans h.hr
 ·exact h.hk.keep λid hid=>hk _ λe=>hnd.1.2.1 (e▸hid)
theorem yRk (n:Nat):zGo ((zJe n).map (D.int .i64)) n (.int .i64 ((n+1:Nat):Int))=(zJe (n+1)).map (D.int .i64):=by
 unfold zGo
 have:((zJe n).map (D.int .i64)).length=n:=by rw[List.length_map,vL]
 rw[List.take_of_length_le (by omega),List.drop_eq_nil_of_le (by omega),zJe,List.map_append];rfl
theorem yPk (tok:Nat) (rows:List D) (row:D):vdR tok (rows++[row])=.slice (some (tok+1)) 1 (rows++[row]):=by cases rows<;>rfl
theorem tkR_app (tok:Nat) (rows:List D) (row:D):tkR tok (rows++[row])=[tok]:=by cases rows<;>rfl
theorem yZg (m:Mem) (t r tok:Nat) (kd vd:D) (rows:List D) (row:D) (h:TrR m ⟨t,r,kd,vd⟩ tok rows) (hl:rows.length<=900) (hrow:∃rt k es,row=.slice (some rt) k es) :
  ∃m' T' tok' b,zG (XG G) TT 151 m [.ptr t 0,.ptr r 0,.int .i64 ((rows.length+1:Nat):Int),row]=some (.tuple [.nil,.bool b],m')/\T'.t=t/\T'.r=r/\TrR m' T' tok' (rows++[row])/\Fr (TrL.mk t r kd vd).ids T'.ids (tkR tok rows) [tok'] m m'/\m'.boxes[t]?=m.boxes[t]?:=by
 have hr:m.boxes[r]?=some [kd,vd,.nil]:=h.hr
 have hul:=vL rows.length
 have hf:=zUj (G:=G) m r kd vd (zJe rows.length) ((rows.length+1:Nat):Int) hr h.hk (by omega) (zOm _)
 rw[hul] at hf
 have hleaf:=zOp (G:=G) m r kd vd hr
 obtain⟨c,ht⟩:∃c:Int,m.boxes[t]?=some [.ptr r 0,.int .i64 16,.int .i64 c]:=h.ht
 obtain rfl:vd=vdR tok rows:=h.hv
 have hnd:=h.nd
 have hnd':=hnd
 simp only[TrL.ids,zJx,List.append_nil,List.nodup_cons,List.mem_cons] at hnd'
 have hrt:t≠r:=λe=>hnd'.1 (.inl e)
 have hkt:t∉uU kd/\r∉uU kd:=⟨λe=>hnd'.1 (.inr e),hnd'.2.1⟩
 have hlt:=h.lt
 have hnt:t<m.boxes.length:=hlt _ (by simp[TrL.ids])
 have hnr:r<m.boxes.length:=hlt _ (by simp[TrL.ids])
 have hkl:((zJe rows.length).map (D.int .i64)).length=rows.length:=by rw[List.length_map,hul]
 obtain⟨kd1,m1,hi1,hk1,rfl,hl1,ht1,hkeep1⟩:=yCl (v:=D.int .i64 ((rows.length+1:Nat):Int)) h.hk (i:=rows.length) (by rw[hkl];exact Nat.le_refl _) (by rw[hkl];omega) rfl
 have hc1:=yNh (G:=G) m kd rows.length _ _ m1 hi1
 obtain⟨tok',m2,hc2,htk2,hb2,hF2⟩:=xAe (G:=G) m1 tok rows row hl (by rw[ht1];exact h.tk)
 have g0:(zVp [t,r] m).boxes[r]?=some [kd,vdR tok rows,.nil]:=yMs (by simp[wX]) hr
 have g1:∀Q P:Prop,((Q\/Sub (zVp [t,r] m) m1)/\P)=P:=zAn (zOl λid hid hl=>by
  simp[wX] at hid
  rcases hid with rfl|rfl
  ·exact hkeep1 _ hl hkt.1
  ·exact hkeep1 _ hl hkt.2)
 have g1r:m1.boxes[r]?=some [kd,vdR tok rows,.nil]:=by rw[hkeep1 _ hnr hkt.2];exact hr
 have g2r:m2.boxes[r]?=some [kd,vdR tok rows,.nil]:=by rw[hb2];exact g1r
 have g2:∀Q P:Prop,((Q\/Sub (zVp [t,r] m) m2)/\P)=P:=zAn (zOl λid hid hl=>by
  simp[wX] at hid
  rw[hb2]
  rcases hid with rfl|rfl
  ·exact hkeep1 _ hl hkt.1
  ·exact hkeep1 _ hl hkt.2)
 have hm2:r<m2.boxes.length:=by rw[hb2];omega
 have g3:∀a,(m2.boxes.set r a)[r]?=some a:=λa=>by rw[List.getElem?_set_self hm2]
 have g4:∀a b,(m2.boxes.set r a).set r b=m2.boxes.set r b:=λa b=>by rw[List.set_set]
 suffices hh:∃d m',zG (XG G) TT 151 m [.ptr t 0,.ptr r 0,.int .i64 ((rows.length+1:Nat):Int),row]=some (d,m')/\∃T' tok' b,d=.tuple [.nil,.bool b]/\T'.t=t/\T'.r=r/\TrR m' T' tok' (rows++[row])/\Fr (TrL.mk t r kd (vdR tok rows)).ids T'.ids (tkR tok rows) [tok'] m m'/\m'.boxes[t]?=m.boxes[t]? by
  obtain⟨d,m',h1,T',tok',b,rfl,h2⟩:=hh;exact⟨m',T',tok',b,h1,h2⟩
 obtain⟨rt,rk,es,rfl⟩:=hrow
 refine zO T151 rfl ?_
 unfold Tryz.f151 xKa
 simp only[Option.getD_some]
 simp +decide only[go_sem,ra,ht]
 refine gw (an9 hf hleaf hr ht hc1 hc2 g0 g1 (an4 g2 g2r g3 g4)) ?_
 simp +decide only[go_sem]
 generalize D.slice (some rt) rk es=row at *
 rw[<-yPk]
 have hset:∀a id,id≠r->(m2.boxes.set r a)[id]?=m2.boxes[id]?:=λa id h=>List.getElem?_set_ne (λe=>h e.symm)
 have h2t:m2.boxes[t]?=m.boxes[t]?:=by rw[hb2,hkeep1 _ hnt hkt.1]
 have hln:(rows++[row]).length=rows.length+1:=by simp
 have hm1:m1.toks.length=m.toks.length:=by rw[ht1]
 refine⟨⟨t,r,.rsl m.boxes.length 0 (((zJe rows.length).map (D.int .i64)).length+1) 1,vdR tok' (rows++[row])⟩,tok',_,rfl,rfl,rfl,⟨⟨c,?_⟩,g3 _,?_,rfl,?_,?_⟩,⟨?_,?_,?_,?_,?_,?_⟩,?_⟩
 ·exact(hset _ _ hrt).trans (h2t.trans ht)
 ·show qR _ (.rsl m.boxes.length 0 (((zJe rows.length).map (D.int .i64)).length+1) 1) _
  rw[hln,<-yRk]
  have hk1:=hk1
  exact(hk1.keep (m':=m2) λid hid=>by rw[hb2]).keep λid hid=>by simp[uU] at hid;subst hid;exact hset _ _ (by omega)
 ·intro _;rw[hln];exact htk2
 ·simp only[TrL.ids,zJx]
  simp only[uU,List.nodup_cons,List.mem_cons,List.append_nil,List.not_mem_nil,or_false,not_or,List.nodup_nil,and_true,not_false_iff]
  exact⟨⟨hrt,by omega⟩,by omega⟩
 ·show m.boxes.length<=(m2.boxes.set r _).length
  rw[List.length_set,hb2];omega
 ·show m.toks.length<=m2.toks.length
  have:=hF2.tlen;omega
 ·intro id h1 h2
  simp only[TrL.ids,zJx,List.append_nil,List.mem_cons,not_or] at h2
  refine(hset _ _ h2.2.1).trans ?_
  rw[hb2,hkeep1 _ h1 h2.2.2]
 ·intro id h1 h2
  exact(hF2.tkeep id (by omega) h2).trans (by rw[ht1])
 ·intro id hid
  simp only[TrL.ids,zJx] at hid
  simp only[uU,List.append_nil,List.mem_cons,List.not_mem_nil,or_false] at hid
  rcases hid with rfl|rfl|rfl
  ·exact .inl (by simp[TrL.ids])
  ·exact .inl (by simp[TrL.ids])
  ·exact .inr (Nat.le_refl _)
 ·intro id hid
  rcases hF2.tsub id hid with h|h
  ·exact .inl h
  ·exact .inr (by omega)
 ·exact(hset _ _ hrt).trans (h2t.trans ht)
theorem xLv (m:Mem) (T:TrL) (tok:Nat) (rows:List D) (row:D) (h:TrR m T tok rows) (hl:rows.length<15) (hrow:∃rt k es,row=.slice (some rt) k es) :
  ∃d m' T' tok',zG (XG G) TT 90 m [.ptr T.t 0,.int .i64 ((rows.length+1:Nat):Int),row]=some (d,m')/\T'.t=T.t/\TrR m' T' tok' (rows++[row])/\Fr T.ids T'.ids (tkR tok rows) [tok'] m m':=by
 obtain⟨t,r,kd,vd⟩:=T
 obtain⟨m1,T1,tok1,b,hc,ht1,hr1,hT1,hF1,hbt⟩:=yZg (G:=G) m t r tok kd vd rows row h (by omega) hrow
 obtain⟨t1,r1,kd1,vd1⟩:=T1
 obtain rfl:t1=t:=ht1
 obtain rfl:r1=r:=hr1
 have hlt:=hT1.lt
 obtain⟨c,hc0⟩:∃c:Int,m.boxes[t1]?=some [.ptr r1 0,.int .i64 16,.int .i64 c]:=h.ht
 have hc1:m1.boxes[t1]?=some [.ptr r1 0,.int .i64 16,.int .i64 c]:=hbt.trans hc0
 have hr1:m1.boxes[r1]?=some [kd1,vd1,.nil]:=hT1.hr
 have hln:=hT1.hk.lenT
 have hml:((zJe (rows++[row]).length).map (D.int .i64)).length=rows.length+1:=by rw[List.length_map,vL];simp
 have hw:((16:Int)<=((rows.length+1:Nat):Int))=False:=eq_false (by omega)
 have hnt:t1<m1.boxes.length:=hlt _ (by simp[TrL.ids])
 rw[hml] at hln
 suffices hh:∃d m',zG (XG G) TT 90 m [.ptr t1 0,.int .i64 ((rows.length+1:Nat):Int),row]=some (d,m')/\∃(T':TrL) (tok':Nat),T'.t=t1/\TrR m' T' tok' (rows++[row])/\Fr (TrL.mk t1 r1 kd vd).ids T'.ids (tkR tok rows) [tok'] m m' by
  obtain⟨d,m',q,T',tok',r⟩:=hh;exact⟨d,m',T',tok',q,r⟩
 refine zO T90 rfl ?_
 unfold Tryz.f90 F90
 simp only[Option.getD_some]
 simp +decide only[go_sem,ra]
 cases b with
 |true=>
  refine gw (an6 hc0 hc hc1 hr1 hln hw) ?_
  simp +decide only[go_sem]
  exact⟨⟨t1,r1,kd1,vd1⟩,tok1,rfl,hT1,hF1⟩
 | false=>
  refine gw (an6 hc0 hc hc1 hr1 hln hw) ?_
  simp +decide only[go_sem]
  refine⟨⟨t1,r1,kd1,vd1⟩,tok1,rfl,hT1.count _,⟨?_,hF1.tlen,?_,hF1.tkeep,hF1.sub,hF1.tsub⟩⟩
  ·show m.boxes.length<=(m1.boxes.set t1 _).length
   rw[List.length_set];exact hF1.len
  ·intro id q1 q2
   have:id≠t1:=λe=>q2 (by simp[TrL.ids,e])
   exact(List.getElem?_set_ne (λe=>this e.symm)).trans (hF1.keep id q1 q2)
theorem yZc (m:Mem) (T:TrL) (tok:Nat) (rows:List D) (h:TrR m T tok rows) (hl:rows.length<=900) :
  zG (XG G) TT 145 m [.ptr T.t 0,.ptr T.r 0,.int .i64 ((rows.length+1:Nat):Int)]=some (.tuple [.nil,.bool false],m):=by
 have hr:=h.hr
 have hul:=vL rows.length
 have hf:=zUj (G:=G) m T.r T.kd T.vd (zJe rows.length) ((rows.length+1:Nat):Int) hr h.hk (by omega) (zOm _)
 have hleaf:=zOp (G:=G) m T.r T.kd T.vd hr
 refine yB T145 rfl ?_
 unfold Tryz.f145 xKe
 simp only[Option.getD_some]
 simp +decide only[go_sem,ra]
 refine gw (an hf hleaf) ?_
 simp +decide only[go_sem]
 try exact⟨rfl,trivial⟩
theorem xPe (m:Mem) (T:TrL) (tok:Nat) (rows:List D) (h:TrR m T tok rows) (hl:rows.length<=900) :
  zG (XG G) TT 84 m [.ptr T.t 0,.int .i64 ((rows.length+1:Nat):Int)]=some (.tuple [.nil,.bool false],m):=by
 have hr:=h.hr
 have hrem:=yZc (G:=G) m T tok rows h hl
 have hleaf:=zOp (G:=G) m T.r T.kd T.vd hr
 obtain⟨c,ht⟩:=h.ht
 have hln:=h.hk.lenT
 have hml:((zJe rows.length).map (D.int .i64)).length=rows.length:=by rw[List.length_map,vL]
 rw[hml] at hln
 refine yB T84 rfl ?_
 unfold Tryz.f84 F84
 simp only[Option.getD_some]
 simp +decide only[go_sem,ra]
 cases b:(((rows.length:Int)==0))
 ·refine gw (an6 hrem hleaf hr ht hln b) ?_
  simp +decide only[go_sem]
  try exact⟨rfl,trivial⟩
 ·refine gw (an6 hrem hleaf hr ht hln b) ?_
  simp +decide only[go_sem]
  try exact⟨rfl,trivial⟩
theorem xAi (m:Mem) (T:TrL) (tok:Nat) (rows:List D) (h:TrR m T tok rows) (hl:rows.length<=900) :
  zG (XG G) TT 144 m [.ptr T.t 0,.int .i64 ((rows.length+1:Nat):Int)]=some (.tuple [.nil,.bool false],m):=by
 have hr:=h.hr
 have hul:=vL rows.length
 have hf:=zUj (G:=G) m T.r T.kd T.vd (zJe rows.length) ((rows.length+1:Nat):Int) hr h.hk (by omega) (zOm _)
 have hleaf:=zOp (G:=G) m T.r T.kd T.vd hr
 obtain⟨c,ht⟩:=h.ht
 refine yB T144 rfl ?_
 unfold Tryz.f144 xKf
 simp only[Option.getD_some]
 simp +decide only[go_sem,ra]
 refine gw (an4 hf hleaf hr ht) ?_
 refine lpC (T:=Unit) [1,6] (λ_=>[]) (λ_=>[]) (λ_=>m) (λ_=>True) (λ_=>0) () (by simp) ?_
 rintro _ _
 refine gw (an4 hf hleaf hr ht) ?_
 simp +decide only[go_sem]
 try exact⟨rfl,trivial⟩
end Go.Eng
namespace Go.Eng
open Go
theorem WT.inv0 {l:List Int} {op ix:Int} {v:Val} {τ:Int} (h:WT l (.nd op ix v []) τ):(op=1/\OKV τ v/\(τ=0\/τ=1\/τ=2)/\(v.k=τ))\/(op=2/\∃n:Nat,ix=n/\l[n]?=some τ/\(τ=1\/τ=2)):=by
 cases h with
 |nul=>exact .inl ⟨rfl,.nul 0,.inl rfl,rfl⟩
 |int=>exact .inl ⟨rfl,.int _,.inr (.inl rfl),rfl⟩
 |txt _ s h hl=>exact .inl ⟨rfl,.txt s h hl,.inr (.inr rfl),rfl⟩
 |col n v t h ht=>exact .inr ⟨rfl,n,rfl,h,ht⟩
theorem WT.inv1 {l:List Int} {op ix:Int} {v:Val} {a:Tm} {τ:Int} (h:WT l (.nd op ix v [a]) τ) :
  ∃t,WT l a t/\((op=3/\τ=1/\(t=0\/t=1))\/(op=9/\τ=1/\(t=0\/t=2))\/(op=17/\τ=3/\(t=0\/t=1\/t=2))\/(op=20/\τ=3/\(t=0\/t=3))):=by
 cases h with
 |neg _ _ _ t ht h=>exact⟨t,h,.inl ⟨rfl,rfl,ht⟩⟩
 |length _ _ _ t ht h=>exact⟨t,h,.inr (.inl ⟨rfl,rfl,ht⟩)⟩
 |isnull _ _ _ t ht h=>exact⟨t,h,.inr (.inr (.inl ⟨rfl,rfl,ht⟩))⟩
 |not _ _ _ t ht h=>exact⟨t,h,.inr (.inr (.inr ⟨rfl,rfl,ht⟩))⟩
theorem WT.inv2 {l:List Int} {op ix:Int} {v:Val} {a b:Tm} {τ:Int} (h:WT l (.nd op ix v [a,b]) τ) :
  ∃t u,WT l a t/\WT l b u/\((4<=op/\op<=8/\τ=1/\(t=0\/t=1)/\(u=0\/u=1)/\(7<=op->∃n:Int,1<=n/\n<=1000/\∀r,evV r b=⟨1,n,[]⟩))\/
   (10<=op/\op<=15/\τ=3/\∃z,(z=1\/z=2)/\(t=0\/t=z)/\(u=0\/u=z))\/
   (op=16/\τ=3/\(t=0\/t=2)/\u=2/\b.op=1)\/
   ((op=18\/op=19)/\τ=3/\(t=0\/t=3)/\(u=0\/u=3))):=by
 cases h with
 |arith _ _ _ _ _ t u ho ht hu h k hd=>exact⟨t,u,h,k,.inl ⟨ho.1,ho.2,rfl,ht,hu,hd⟩⟩
 |rel _ _ _ _ _ t u ho h k hk=>exact⟨t,u,h,k,.inr (.inl ⟨ho.1,ho.2,rfl,hk⟩)⟩
 |like _ _ _ _ t ht h k hb=>exact⟨t,2,h,k,.inr (.inr (.inl ⟨rfl,rfl,ht,rfl,hb⟩))⟩
 |junct _ _ _ _ _ t u ho ht hu h k=>exact⟨t,u,h,k,.inr (.inr (.inr ⟨ho,rfl,ht,hu⟩))⟩
theorem WT.len {l:List Int} {op ix:Int} {v:Val} {aq:List Tm} {τ:Int} (h:WT l (.nd op ix v aq) τ):aq.length<=2:=by
 cases h<;>simp
theorem yXy (r:List Val) (op ix:Int) (v:Val) (a b:Tm):evV r (.nd op ix v [a,b])=if(evV r a).k=0 then nul else if(evV r b).k=0 then nul else⟨1,arith op (evV r a).n (evV r b).n,[]⟩:=by rw[evV]
theorem yXz (r:List Val) (op ix:Int) (v:Val) (a:Tm):evV r (.nd op ix v [a])=if(evV r a).k=0 then nul else⟨1,if op=3 then wr (0-(evV r a).n) else(evV r a).s.length,[]⟩:=by rw[evV]
theorem yYa (r:List Val) (op ix:Int) (v:Val):evV r (.nd op ix v [])=if op=2 then(atI r ix).getD nul else v:=by rw[evV]
theorem yYd (r:List Val) (op ix:Int) (v:Val):evC r (.nd op ix v [])=2:=by rw[evC]
theorem yYc (r:List Val) (op ix:Int) (v:Val) (a:Tm):evC r (.nd op ix v [a])=if op=17 then ofB ((evV r a).k==0) else yHb (evC r a):=by rw[evC]
theorem yYb (r:List Val) (op ix:Int) (v:Val) (a b:Tm):evC r (.nd op ix v [a,b])=if op=18 then zYw (evC r a) (evC r b) else if op=19 then or3 (evC r a) (evC r b) else yMk op (evV r a) (evV r b):=by rw[evC]
theorem WT.const {l:List Int}:∀{e:Tm} {τ:Int},WT l e τ->yHg (λ_=>False) e->WT [] e τ:=by
 intro e τ h
 induction h with
 |nul ix=>exact λ_=>.nul ix
 |int ix n=>exact λ_=>.int ix n
 |txt ix s h hl=>exact λ_=>.txt ix s h hl
 |col n v t h ht=>intro hv;cases hv with|nd _ _ _ _ h k=>exact(h rfl).elim
 |neg ix v a t ht h ih=>intro hv;cases hv with|nd _ _ _ _ h k=>exact .neg ix v a t ht (ih (k a (by simp)))
 |length ix v a t ht h ih=>intro hv;cases hv with|nd _ _ _ _ h k=>exact .length ix v a t ht (ih (k a (by simp)))
 |isnull ix v a t ht h ih=>intro hv;cases hv with|nd _ _ _ _ h k=>exact .isnull ix v a t ht (ih (k a (by simp)))
 |not ix v a t ht h ih=>intro hv;cases hv with|nd _ _ _ _ h k=>exact .not ix v a t ht (ih (k a (by simp)))
 |arith op ix v a b t u ho ht hu h k hd ih1 ih2=>intro hv;cases hv with|nd _ _ _ _ h k=>exact .arith op ix v a b t u ho ht hu (ih1 (k a (by simp))) (ih2 (k b (by simp))) hd
 |rel op ix v a b t u ho h k hk ih1 ih2=>intro hv;cases hv with|nd _ _ _ _ h k=>exact .rel op ix v a b t u ho (ih1 (k a (by simp))) (ih2 (k b (by simp))) hk
 |like ix v a b t ht h k hb ih1 ih2=>intro hv;cases hv with|nd _ _ _ _ h k=>exact .like ix v a b t ht (ih1 (k a (by simp))) (ih2 (k b (by simp))) hb
 |junct op ix v a b t u ho ht hu h k ih1 ih2=>intro hv;cases hv with|nd _ _ _ _ h k=>exact .junct op ix v a b t u ho ht hu (ih1 (k a (by simp))) (ih2 (k b (by simp)))
theorem yEk {a n:Int} (hn:1<=n):a.tmod n<0↔(a.tmod n≠0/\a<0):=by
 have h1:n.natAbs≠0:=by omega
 rcases Int.lt_or_le a 0 with h|h
 ·have:a.tmod n<=0:=by
   have:=Int.tmod_nonneg n (a := -a) (by omega)
   rw[Int.neg_tmod] at this;omega
  exact⟨λe=>⟨by omega,h⟩,λe=>by omega⟩
 ·have:=Int.tmod_nonneg n h
  exact⟨λe=>by omega,λe=>by omega⟩
end Go.Eng
