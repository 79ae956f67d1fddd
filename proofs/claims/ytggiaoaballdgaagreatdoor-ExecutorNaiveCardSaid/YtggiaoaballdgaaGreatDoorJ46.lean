/- A part of the proof: see the last text. -/
import Derived.Test.YtggiaoaballdgaaGreatDoorCards
import Derived.Test.YtggiaoaballdgaaGreatDoorR5Law4
import Derived.Test.YtggiaoaballdgaaGreatDoorR2Awake10
import Derived.Test.YtggiaoaballdgaaGreatDoorJ22
set_option linter.unusedSimpArgs false
set_option linter.unusedVariables false
namespace Go.Eng
open Go Go.Proofs
theorem yFg (c:Cas) (data:Sl Rows):zA (XG GK) TT 4 [zFd c,qI data]=some (.bool true):=xUx c data awake
end Go.Eng
namespace Go.Eng
open Go Go.Proofs Go.Proofs.YtggiaoaballdgaaGreatDoor
open Go.ChangeShapes Go.WideShapes Go.RowKit
theorem yFh (os:Os) (args:Array Value):laidMetH Tryz.prog Rows.executorNaiveRow.laid ((zRt os).forCall (λ_ _=>0) ⟨#[],args,[]⟩).memory:=
 show laidMet Tryz.prog Rows.executorNaiveRow.laid _ from laidMet_of_run' 8 (by kernel_rfl) (by kernel_rfl)
set_option maxRecDepth 100000 in
theorem yQz (os:Os) (started:os.Started) (H:Type) (enc:TypeId×Value->H) :
  ReturnsInHanded {} Tryz.checked os 4 .any (λw args=>(Rows.executorNaiveSpec.pre enc Tryz.prog Tryz.f4 [] false w args/\laidMetH Tryz.prog Rows.executorNaiveRow.laid w)/\sizedMet enc Tryz.prog Tryz.f4 (OpenSpec.ofChange Rows.executorNaiveSpec) false w args)
   (Rows.executorNaiveSpec.post enc Tryz.prog Tryz.f4 false true false false):=by
 refine returnsInHanded_of_change_and (C:=Tryz.checked) (X:=λw _=>laidMetH Tryz.prog Rows.executorNaiveRow.laid w) (λ_ _ _ hh h=>h.of_heap hh) yLz started (by kernel_rfl) Tryz.func4
  (ChangeSpec.witness_shaped (enc:=enc) (C:=Tryz.checked) (os:=os) (X:=λw _=>laidMetH Tryz.prog Rows.executorNaiveRow.laid w) false (zRt os) #[.agg #[.slice none 0 0,.slice none 0 0,.slice none 0 0,.int .i64 0,.string ⟨#[]⟩,.string ⟨#[]⟩,.int .i64 0,.int .i64 0,.int .i64 0,.string ⟨#[]⟩,.slice none 0 0],.slice none 0 0] 8 rfl (World.shaped_of_RefB (by kernel_rfl) (by kernel_rfl)) (by kernel_rfl) (by kernel_rfl) (by kernel_rfl) (yFh os _)) ?_
 intro W base args ds gs before hval0 hW _ hwt0 hL _
 have hval:∀(j:Nat) t v,Tryz.f4.params[j]?=some t->args[j]?=some v->Value.okWide Tryz.prog W .any base t v:=hval0
 have hW':=hW
 obtain⟨p,q,hA0,hV0,rfl,hfz,hnd⟩:=hW
 have hA:DataW.TrodAll enc Tryz.prog W 0 (λ_=>true) true Tryz.f4.params.toList args.toList ds p:=hA0
 have hV:DataW.TrodVars enc Tryz.prog W (λ_=>true) [] gs q:=hV0
 obtain⟨rfl,rfl⟩:gs=[]/\q=[]:=by
  cases gs with
  |nil=>exact⟨rfl,hV⟩
  |cons g r=>exact absurd hV (by intro h;cases h)
 have hwt:∀m∈DataW.weightsEach Tryz.prog Tryz.f4.params.toList ds,m<=reachBytes:=λm hm=>by
  have h:=List.all_eq_true.1 hwt0 m (by
   simp only[List.append_nil]
   exact hm)
  exact of_decide_eq_true h
 rw[Tryz.params4] at hA hval hwt
 obtain⟨v0,v1,d0,d1,p0,p1,rfl,rfl,rfl,h0,h1⟩:=trodAll_two hA
 obtain⟨cs0,rfl,_⟩:=okWide_struct Tryz.underlying32 (hval 0 32 v0 rfl rfl)
 obtain⟨a0,e0⟩:=ySm (f:=zFd) (λ_=>⟨_,rfl⟩) rd32 h0 λm hm=>hwt m (uD (i:=0) (t:=32) (d:=d0) rfl rfl m hm)
 have c1:=zMr Tryz.underlying33 (hval 1 33 v1 rfl rfl)
 obtain⟨a1,e1⟩:=xBd rd33 c1 h1 λm hm=>hwt m (uD (i:=1) (t:=33) (d:=d1) rfl rfl m hm)
 refine(yKb (f:=4) pf4 rfl rfl (by simp only[go_sem]) (yFg a0 a1) hL (zRv e0 (zRv e1 yKj))).mono λe W' ⟨he,hb⟩=>?_
 have ee:Rows.executorNaiveSpec.fn H ([d0,d1]++[])={ results:=[.lit (.bool true)],args:=[d0,d1] }:=rfl
 have hlt:∀x∈p0++p1,x.block<W.heap.size:=λx hx=>hW'.lt x (by simpa using hx)
 refine⟨_,he,_,_,_,[],p0++p1,[],hW',?_,?_,?_,hb.frame _,λh=>by cases h⟩
 ·rw[ee];exact trodAll_mk1 (shut_bool Tryz.underlying4 true)
 ·rw[ee]
  exact trodAll_mk2 (RowKit.Below.trod zIi (by kernel_rfl) (of_decide_eq_true (by kernel_rfl)) h0 hb λx hx=>hlt x (List.mem_append_left _ hx))
   (RowKit.Below.trod zIi (by kernel_rfl) (of_decide_eq_true (by kernel_rfl)) h1 hb λx hx=>hlt x (List.mem_append_right _ hx))
 ·rw[ee];rfl
end Go.Eng
