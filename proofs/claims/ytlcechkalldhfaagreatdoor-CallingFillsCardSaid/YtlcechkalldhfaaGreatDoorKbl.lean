/- Part of the proof of CallingFills: engine, contracts or law, joined by a program from the texts RA. -/
import Derived.Test.YtlcechkalldhfaaGreatDoorKbk
import Derived.Test.YtlcechkalldhfaaGreatDoorTie
import Derived.Test.YtlcechkalldhfaaGreatDoorCards
import Derived.WalkKit
import Derived.ProofKit
import Derived.LaidMore
import Derived.OpenShut
import Derived.ShutString
import Derived.ChangeOld
import Derived.Below
import Derived.SizedLaws
import Derived.Stop.Joined
import Derived.SevenTiedAt
set_option linter.all false
set_option maxRecDepth 100000
namespace Go.Proofs.YtlcechkalldhfaaGreatDoor
open Go.ChangeShapes Go.WideShapes Go.ChangeAt Go.WideMaps Go.WideElems Go.RowKit Go.En Go.En.V
theorem own:ownKnob Tryz.prog.godebug=none:=by kernel_rfl
theorem laidOut:laidOutB Tryz.prog=true:=by kernel_rfl
theorem gShapes:Tryz.prog.globalNamed "retarget/term.shapes" =some 0:=by kernel_rfl
theorem shTerm(n:Nat):(MQ n).size=6∧wY Tryz.prog (MQ n) 64=true:=Kd (by kernel_rfl) (by kernel_rfl) n
theorem shMach(n:Nat):wY Tryz.prog (Wo (MQ n)) 27=true:=BD (shTerm n).1 (shTerm n).2 (Wo (.bot 6)) 27 (by kernel_rfl)
theorem dpMach(n:Nat):jF (Wo (MQ n)) n:=Fs (Wo (.bot 6)) n (Fq n)
theorem shConv:wY Tryz.prog W7 33=true:=by kernel_rfl
theorem shTpl:wY Tryz.prog Bo 31=true:=by kernel_rfl
theorem shInt:wY Tryz.prog (.int .i64) 3=true:=by kernel_rfl
theorem dpConv(n:Nat):jF W7 n:=by simp[W7,Bo,adB,jF,iN]
theorem dpTpl(n:Nat):jF Bo n:=by simp[Bo,jF,iN]
theorem dpInt(n:Nat):jF (.int .i64) n:=by simp[jF]
theorem c204:Tryz.prog.cellsOf 204=3:=by kernel_rfl
theorem c9:Tryz.prog.cellsOf 9=1:=by kernel_rfl
theorem c3:Tryz.prog.cellsOf 3=1:=by kernel_rfl
theorem elem_of{H:Type}{enc:TypeId×Value→H}{W:World}{b fuel:Nat}{sp:Nat→Bool}{held:Bool}{cs:List Value}{x:DataW H×List MemPlace}{s:List UInt8}{a c:Int}
  (h:DataW.trod enc Tryz.prog W b sp held fuel 204 cs=some x)(hx:x.1=.agg [.lit (.string s),.lit (.int .i64 a),.lit (.int .i64 c)]):cs=[.string ⟨⟨s⟩⟩,.int .i64 a,.int .i64 c]:=by
 obtain⟨xs,n,rfl,rfl,hl,hn,hf⟩:=DataW.trod_struct Tryz.underlying204 h
 rw[c204] at hl
 obtain⟨v0,v1,v2,rfl⟩:∃v0 v1 v2,cs=[v0,v1,v2]:=by
  match cs,hl with
  |[v0,v1,v2],_=>exact⟨v0,v1,v2,rfl⟩
 obtain⟨y0,y1,y2,rfl⟩:∃y0 y1 y2,xs=[y0,y1,y2]:=by
  match xs,hn with
  |[y0,y1,y2],_=>exact⟨y0,y1,y2,rfl⟩
 have h0:DataW.trod enc Tryz.prog W b sp held n 9 (([v0,v1,v2].drop 0).take (Tryz.prog.cellsOf 9))=some y0:=hf 0 _ rfl
 have h1:DataW.trod enc Tryz.prog W b sp held n 3 (([v0,v1,v2].drop 1).take (Tryz.prog.cellsOf 3))=some y1:=hf 1 _ rfl
 have h2:DataW.trod enc Tryz.prog W b sp held n 3 (([v0,v1,v2].drop 2).take (Tryz.prog.cellsOf 3))=some y2:=hf 2 _ rfl
 rw[c9] at h0
 rw[c3] at h1 h2
 obtain⟨s0,e0,f0,_⟩:=DataW.trod_string Tryz.underlying9 h0
 obtain⟨n1,e1,f1,_⟩:=DataW.trod_int Tryz.underlying3 h1
 obtain⟨n2,e2,f2,_⟩:=DataW.trod_int Tryz.underlying3 h2
 subst f0;subst f1;subst f2
 simp only[List.map_cons,List.map_nil,DataW.agg.injEq,List.cons.injEq,and_true,DataW.lit.injEq,Lit.string.injEq,Lit.int.injEq,true_and] at hx
 obtain⟨x0,x1,x2⟩:=hx
 subst x0;subst x1;subst x2
 simp only[List.drop_zero,List.drop_succ_cons,List.take_succ_cons,List.take_zero,List.cons.injEq,and_true] at e0 e1 e2
 rw[e0,e1,e2]
theorem at3{α:Type}{l:List α}{i:Nat}{a b c:α}(h:(l.drop (i*3)).take 3=[a,b,c]):l[i*3]? =some a∧l[i*3+1]? =some b∧l[i*3+2]? =some c:=by
 have f:∀k,k<3→l[i*3+k]? =[a,b,c][k]? :=fun k hk=>by
  rw[←h,List.getElem?_take,if_pos hk,List.getElem?_drop]
 exact⟨f 0 (by decide),f 1 (by decide),f 2 (by decide)⟩
def rowsT:List (List UInt8×Int×Int):=[([],0,0),([],0,0),([],0,0),([110,111,116],1,1),([110,101,103],1,1),([97,100,100],2,1),([115,117,98],2,1),([109,117,108],2,1),([97,110,100],2,1),([111,114],2,1),([120,111,114],2,1),([115,104,108],2,1),([115,104,114],2,1),([115,97,114],2,1),([117,100,105,118],2,1),([117,114,101,109],2,1),([101,113],2,2),([117,108,116],2,2),([115,108,116],2,2),([105,116,101],3,3),([99,111,110,99,97,116],2,4),([101,120,116,114,97,99,116],1,5),([122,101,120,116],1,6),([115,101,120,116],1,6),([108,111,97,100],1,7)]
def cellT(k:Nat):Value:=match rowsT[k/3]? with
 |some (s,a,c)=>if k % 3=0 then .string ⟨⟨s⟩⟩ else if k % 3=1 then .int .i64 a else .int .i64 c
 |none=>undef
def pcellT(k:Nat):PV:=match rowsT[k/3]? with
 |some (s,a,c)=>if k % 3=0 then .str ⟨⟨s⟩⟩ else if k % 3=1 then .int .i64 a else .int .i64 c
 |none=>.nils
theorem shapes_rows:lR=(List.range 75).map pcellT:=by kernel_rfl
theorem laid_rows{H:Type}:(Rows.laid_retarget_term_shapes:DataW H)=.agg (rowsT.map fun x=>.agg [.lit (.string x.1),.lit (.int .i64 x.2.1),.lit (.int .i64 x.2.2)]):=by kernel_rfl
theorem cell_rep{M:Addr→Option Value}{k:Nat}(hk:k<75):bu M (pcellT k) (cellT k)∧(cellT k).oneCell'=true:=by
 have hl:rowsT.length=25:=rfl
 obtain⟨x,hx⟩:∃x,rowsT[k/3]? =some x:=⟨_,List.getElem?_eq_getElem (by omega)⟩
 obtain⟨s,a,c⟩:=x
 unfold pcellT cellT
 rw[hx]
 by_cases h0:k % 3=0
 ·simp only[h0,if_pos]
  exact⟨bu.str _,rfl⟩
 ·by_cases h1:k % 3=1
  ·simp only[h1,if_pos,if_neg (show¬(1:Nat)=0 by decide)]
   exact⟨bu.int _ _,rfl⟩
  ·simp only[if_neg h0,if_neg h1]
   exact⟨bu.int _ _,rfl⟩
theorem glob_ok{W:World}(h:laidMetH Tryz.prog [("retarget/term.shapes",Rows.laid_retarget_term_shapes)] W):zi (Cx.all L W):=by
 rw[MakeChecks.laidMetH_plain _ _ _ (by kernel_rfl)] at h
 obtain⟨ps,⟨g0,t0,cs0,f0,p0,q0,hg0,ht0,hv0,hd0,_⟩,_⟩:=h
 obtain rfl:=Option.some.inj (gShapes.symm.trans hg0)
 obtain rfl:t0=225:=(Option.some.inj ((show(Tryz.prog.globals[0]?).map (·.type)=some 225 by kernel_rfl).symm.trans ht0)).symm
 obtain⟨xs,m,rfl,hx,hl,hn,RH⟩:=DataW.trod_array Tryz.underlying225 hd0
 simp only[Prod.mk.injEq] at hx
 have hx:=hx.1
 rw[laid_rows] at hx
 simp only[DataW.agg.injEq] at hx
 rw[c204] at RH
 have key:∀k,k<75→cs0.toList[k]? =some (cellT k):=fun k hk=>by
  have hi:k/3<25:=by omega
  have hlen:rowsT.length=25:=rfl
  obtain⟨y,hy⟩:∃y,rowsT[k/3]? =some y:=⟨_,List.getElem?_eq_getElem (by omega)⟩
  have e:=congrArg (fun l=>l[k/3]?) hx
  simp only[List.getElem?_map,hy,Option.map_some] at e
  obtain⟨z,hz⟩:∃z,xs[k/3]? =some z:=⟨_,List.getElem?_eq_getElem (by omega)⟩
  rw[hz,Option.map_some] at e
  have h1:=RH (k/3) hi
  rw[hz] at h1
  obtain⟨s,a,c⟩:=y
  have h2:=at3 (elem_of h1 (Option.some.inj e).symm)
  unfold cellT
  rw[hy]
  have hd:=Nat.div_add_mod k 3
  by_cases h0:k % 3=0
  ·simp only[h0,if_pos]
   rw[show k=k/3*3 by omega]
   exact h2.1
  ·by_cases h1:k % 3=1
   ·simp only[h1,if_pos,if_neg (show¬(1:Nat)=0 by decide)]
    have:=h2.2.1
    rwa [show k/3*3+1=k by omega] at this
   ·simp only[if_neg h0,if_neg h1]
    have:=h2.2.2
    rwa [show k/3*3+2=k by omega] at this
 intro g cs hg
 have JF:(if g=0 then some lR else none)=some cs:=hg
 by_cases h0:g=0
 ·subst h0
  rw[if_pos rfl] at JF
  cases JF
  refine⟨cellT,fun k hk=> ?_⟩
  rw[shapes_rows] at hk ⊢
  have hk:k<75:=by simpa using hk
  have e:((List.range 75).map pcellT).getD k .nils=pcellT k:=by simp[List.getD_eq_getElem?_getD,hk]
  rw[e]
  refine⟨⟨?_,(cell_rep (M:=W.cell?) hk).2⟩,(cell_rep hk).1⟩
  show W.cell? ⟨0,k,none⟩=_
  rw[World.var?_cell hg0 hv0 k]
  simpa using key k hk
 ·rw[if_neg h0] at JF
  cases JF
theorem door_met(os:Os)(args:Array Value):laidMetH Tryz.prog [("retarget/term.shapes",Rows.laid_retarget_term_shapes)] ((World.doorLaid Tryz.prog 400 os).forCall (fun _ _=>0) ⟨#[],args,[]⟩).memory:=
 laidMetH_of_parts3 (fuel:=8) (laidMet_of_run' 8 (by kernel_rfl) (by kernel_rfl)) (by kernel_rfl) (by kernel_rfl)
set_option maxHeartbeats 2000000 in
theorem lifted(os:Os)(started:os.Started)(H:Type)(enc:TypeId×Value→H):
  ReturnsInHanded {} Tryz.checked os 4 .any (fun w args=>(Rows.callingFillsSpec.pre enc Tryz.prog Tryz.f4 [] false w args∧laidMetH Tryz.prog [("retarget/term.shapes",Rows.laid_retarget_term_shapes)] w)∧sizedMet enc Tryz.prog Tryz.f4 (OpenSpec.ofChange Rows.callingFillsSpec) false w args)
   (Rows.callingFillsSpec.post enc Tryz.prog Tryz.f4 false true false false):=by
 refine returnsInHanded_of_change_and (C:=Tryz.checked) (X:=fun w _=>laidMetH Tryz.prog [("retarget/term.shapes",Rows.laid_retarget_term_shapes)] w) (fun _ _ _ hh h=>h.of_heap hh) own started (by kernel_rfl) Tryz.func4
  (ChangeSpec.witness_shaped (enc:=enc) (C:=Tryz.checked) (os:=os) (X:=fun w _=>laidMetH Tryz.prog [("retarget/term.shapes",Rows.laid_retarget_term_shapes)] w) false (World.doorLaid Tryz.prog 400 os)
    #[.agg #[.string ⟨#[]⟩,.int .i64 0,.int .i64 0,.slice none 0 0,.slice none 0 0,.slice none 0 0,.slice none 0 0],.agg #[.int .i64 0,.int .i64 0,.int .i64 0,.slice none 0 0,.int .i64 0,.slice none 0 0,.int .i64 0,.slice none 0 0,.int .i64 0,.slice none 0 0,.int .i64 0,.slice none 0 0,.int .i64 0,.slice none 0 0,.int .i64 0,.slice none 0 0,.int .i64 0],.agg #[.int .i64 0,.slice none 0 0],.int .i64 0,.int .i64 0,.int .i64 0]
    8 rfl (World.shaped_of_RefB (by kernel_rfl) (by kernel_rfl)) (by kernel_rfl) (by kernel_rfl) (by kernel_rfl) (door_met os _)) ?_
 intro W base args ds gs before hval0 hW _ _ hL _
 have hval:∀(j:Nat) t v,Tryz.f4.params[j]? =some t→args[j]? =some v→Value.okWide Tryz.prog W .any base t v:=hval0
 have hW':=hW
 obtain⟨p,q,hA0,hV,rfl,hfz,fW⟩:=hW
 have hA:DataW.TrodAll enc Tryz.prog W 0 (fun _=>true) true Tryz.f4.params.toList args.toList ds p:=hA0
 rw[Tryz.params4] at hA hval
 obtain⟨v0,vs0,d0,ds0,p0,q0,hargs0,rfl,rfl,h0,r0⟩:=trodAll_cons hA
 obtain⟨v1,vs1,d1,ds1,p1,q1,hargs1,rfl,rfl,h1,r1⟩:=trodAll_cons r0
 obtain⟨v2,vs2,d2,ds2,p2,q2,hargs2,rfl,rfl,h2,r2⟩:=trodAll_cons r1
 obtain⟨v3,vs3,d3,ds3,p3,q3,hargs3,rfl,rfl,h3,r3⟩:=trodAll_cons r2
 obtain⟨v4,vs4,d4,ds4,p4,q4,hargs4,rfl,rfl,h4,r4⟩:=trodAll_cons r3
 obtain⟨v5,vs5,d5,ds5,p5,q5,hargs5,rfl,rfl,h5,r5⟩:=trodAll_cons r4
 obtain⟨rfl,rfl,rfl⟩:=trodAll_nil r5
 subst hargs1
 subst hargs2
 subst hargs3
 subst hargs4
 subst hargs5
 obtain rfl:args= #[v0,v1,v2,v3,v4,v5]:=by cases args;simp_all
 obtain⟨rfl,rfl⟩:=trodVars_none hV
 have k0:=h0
 have lt0:∀x∈p0,x.block<W.heap.size:=by obtain⟨m,hm⟩:=k0;exact DataW.trod_lt m _ _ _ hm
 have k1:=h1
 have lt1:∀x∈p1,x.block<W.heap.size:=by obtain⟨m,hm⟩:=k1;exact DataW.trod_lt m _ _ _ hm
 have k2:=h2
 have lt2:∀x∈p2,x.block<W.heap.size:=by obtain⟨m,hm⟩:=k2;exact DataW.trod_lt m _ _ _ hm
 have k3:=h3
 have lt3:∀x∈p3,x.block<W.heap.size:=by obtain⟨m,hm⟩:=k3;exact DataW.trod_lt m _ _ _ hm
 have k4:=h4
 have lt4:∀x∈p4,x.block<W.heap.size:=by obtain⟨m,hm⟩:=k4;exact DataW.trod_lt m _ _ _ hm
 have k5:=h5
 have lt5:∀x∈p5,x.block<W.heap.size:=by obtain⟨m,hm⟩:=k5;exact DataW.trod_lt m _ _ _ hm
 obtain⟨n0,x0,i0,e0⟩:=azE (S:=fun n=>Wo (MQ n)) shMach dpMach (hval 0 27 v0 rfl rfl) h0
 obtain⟨a0,rfl,g0⟩:=aud n0 i0
 obtain⟨n1,x1,i1,e1⟩:=azE (S:=fun _=>W7) (fun _=>shConv) dpConv (hval 1 33 v1 rfl rfl) h1
 obtain⟨a1,rfl,g1⟩:=aue i1
 obtain⟨n2,x2,i2,e2⟩:=azE (S:=fun _=>Bo) (fun _=>shTpl) dpTpl (hval 2 31 v2 rfl rfl) h2
 obtain⟨a2,rfl,_⟩:=re i2
 obtain⟨n3,x3,i3,e3⟩:=azE (S:=fun _=>.int .i64) (fun _=>shInt) dpInt (hval 3 3 v3 rfl rfl) h3
 obtain⟨a3,rfl,_⟩:=dk i3
 obtain⟨n4,x4,i4,e4⟩:=azE (S:=fun _=>.int .i64) (fun _=>shInt) dpInt (hval 4 3 v4 rfl rfl) h4
 obtain⟨a4,rfl,_⟩:=dk i4
 obtain⟨n5,x5,i5,e5⟩:=azE (S:=fun _=>.int .i64) (fun _=>shInt) dpInt (hval 5 3 v5 rfl rfl) h5
 obtain⟨a5,rfl,_⟩:=dk i5
 have aV:=avv _ _ _ _ _ (abG 18000 (Nat.le_refl _) a0 a1 a2 a3 a4 a5 g0 g1)
 refine(ahw (xs:=[JT a0,JU a1,zJ a2,i64 a3,i64 a4,i64 a5]) (vs:= #[v0,v1,v2,v3,v4,v5]) aV (glob_ok hL) rfl (fun k hk=> ?_)).mono fun e W' ⟨he,bel⟩=> ?_
 ·match k,hk with
  |0,_=>exact e0
  |1,_=>exact e1
  |2,_=>exact e2
  |3,_=>exact e3
  |4,_=>exact e4
  |5,_=>exact e5
 subst he
 exact⟨_,rfl,_,_,_,[],_,[],hW',trodAll_mk1 (shut_bool Tryz.underlying4 _),(trodAll_cons_mk (Below.trod laidOut (by kernel_rfl) (of_decide_eq_true (by kernel_rfl)) k0 bel lt0) (trodAll_cons_mk (Below.trod laidOut (by kernel_rfl) (of_decide_eq_true (by kernel_rfl)) k1 bel lt1) (trodAll_cons_mk (Below.trod laidOut (by kernel_rfl) (of_decide_eq_true (by kernel_rfl)) k2 bel lt2) (trodAll_cons_mk (Below.trod laidOut (by kernel_rfl) (of_decide_eq_true (by kernel_rfl)) k3 bel lt3) (trodAll_cons_mk (Below.trod laidOut (by kernel_rfl) (of_decide_eq_true (by kernel_rfl)) k4 bel lt4) (trodAll_cons_mk (Below.trod laidOut (by kernel_rfl) (of_decide_eq_true (by kernel_rfl)) k5 bel lt5) trodAll_mk0)))))),rfl,bel.frame _,fun h=>by cases h⟩
end Go.Proofs.YtlcechkalldhfaaGreatDoor
