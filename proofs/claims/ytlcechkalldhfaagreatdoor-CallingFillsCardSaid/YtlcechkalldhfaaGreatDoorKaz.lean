/- Part of the proof of CallingFills: engine, contracts or law, joined by a program from the texts X65 X74 X78 Y27. -/
import Derived.Test.YtlcechkalldhfaaGreatDoorKat
import Derived.Test.YtlcechkalldhfaaGreatDoorKax
import Derived.Test.YtlcechkalldhfaaGreatDoorKay
set_option linter.all false
set_option maxRecDepth 100000
set_option maxHeartbeats 4000000
namespace Go.En.V
open Go.Proofs
theorem Hj(N:Nat)(hN:1600≤N)(m:aw)(c:Conv)(t:gf)(h:MT m t)(hc:VC m c (nth m.instrs t.instr)):
  R N 68 [ag (ah m),ag (ax c),ag (bm t)] []=some (ab (aG m t false&&Jq m c (nth m.instrs t.instr) t.args),[]):=by
 have aa:rows 68=_:=U9.eq_1
 obtain⟨n,rfl⟩:=up N
 rw[aE 68 Tryz.func68 rfl rfl]
 have ho:=ik n (by omega) m c t false h.al h.ins
 cases hs:aG m t false
 ·have ho:=ho.2 hs
  unfold fw at ho
  simp[aa,ho]
 have ho:=ho.1 hs
 obtain⟨hf,hm⟩:=h.fok c hs
 have jc:=h.al
 have hlen:=hf.len
 have ha:=fun x=>pD n ⟨m,c,t,nth m.instrs t.instr⟩ x (show t.args.length+1<n by omega) (show t.args.length≤1000 by omega)
 have rk:=fun (i:Int) (i0:0≤i) (i1:i<(t.args.length:Int))=>hf.var n (by omega) (i:=i) i0 i1
 have uu:=fun (i:Int) (i0:0≤i) (i1:i<(t.args.length:Int))=>hf.reg n (by omega) (i:=i) (-1) (by omega) i0 i1
 have zn:=fun k l=>Cy n (by omega) ⟨m,c,t,nth m.instrs t.instr⟩ k l
 have LF:=fun x hx=>CC n (by omega) ⟨m,c,t,nth m.instrs t.instr⟩ x hc.addr hx
 have cm:=AM n (by omega) ⟨m,c,t,nth m.instrs t.instr⟩ hc.st0 hc.st1 hc.nm
 simp only at hlen rk uu zn LF cm hc ha ⊢
 generalize nth m.instrs t.instr=s at*
 have PS:(bo t.args (-1)).length≤t.args.length:=dQ _ _ _
 have Ly:(bo t.args (-2)).length≤t.args.length:=dQ _ _ _
 have Sb:(bo t.args (-3)).length≤t.args.length:=dQ _ _ _
 have RD:(bo t.args (-4)).length≤t.args.length:=dQ _ _ _
 unfold Jq
 by_cases c0:((bo t.args (-1)).length=0∧(bo t.args (-2)).length=0)∧(bo t.args (-3)).length=0∧(bo t.args (-4)).length=0
 rotate_left
 ·have e:e9 t.args 0 0 0 0=false:=by
   rw[Bool.eq_false_iff];intro hq
   obtain⟨a1,a2,a3,a4⟩:=o7 hq
   exact c0 ⟨⟨by omega,by omega⟩,by omega,by omega⟩
  rw[e]
  have w1:IntKind.i64.wrap (((bo t.args (-1)).length:Int)+((bo t.args (-2)).length:Int))=((bo t.args (-1)).length:Int)+((bo t.args (-2)).length:Int):=wrap64 (by omega) (by omega)
  have w2:IntKind.i64.wrap (((bo t.args (-1)).length:Int)+((bo t.args (-2)).length:Int)+((bo t.args (-3)).length:Int))=((bo t.args (-1)).length:Int)+((bo t.args (-2)).length:Int)+((bo t.args (-3)).length:Int):=wrap64 (by omega) (by omega)
  have w3:IntKind.i64.wrap (((bo t.args (-1)).length:Int)+((bo t.args (-2)).length:Int)+((bo t.args (-3)).length:Int)+((bo t.args (-4)).length:Int))=((bo t.args (-1)).length:Int)+((bo t.args (-2)).length:Int)+((bo t.args (-3)).length:Int)+((bo t.args (-4)).length:Int):=wrap64 (by omega) (by omega)
  have w4:(0:Int)<((bo t.args (-1)).length:Int)+((bo t.args (-2)).length:Int)+((bo t.args (-3)).length:Int)+((bo t.args (-4)).length:Int):=by omega
  simp[aa,ho,ha,w1,w2,w3,w4]
 obtain⟨⟨a1,a2⟩,a3,a4⟩:=c0
 have e:e9 t.args 0 0 0 0=true:=by simp[e9,ak,List.eq_nil_of_length_eq_zero a1,List.eq_nil_of_length_eq_zero a2,List.eq_nil_of_length_eq_zero a3,List.eq_nil_of_length_eq_zero a4]
 rw[e]
 have w0:IntKind.i64.wrap 0=0:=rfl
 have b1:=List.eq_nil_of_length_eq_zero a1
 have b2:=List.eq_nil_of_length_eq_zero a2
 have b3:=List.eq_nil_of_length_eq_zero a3
 have b4:=List.eq_nil_of_length_eq_zero a4
 have C6:=ha (-1)
 have Be:=ha (-2)
 have Bc:=ha (-3)
 have Bb:=ha (-4)
 rw[b1] at C6
 rw[b2] at Be
 rw[b3] at Bc
 rw[b4] at Bb
 by_cases hl:0≤c.link
 ·rw[if_pos hl]
  have ay0:=ha c.link
  have oO:(bo t.args c.link).length≤t.args.length:=dQ _ _ _
  have ny:∀i∈bo t.args c.link,0≤i∧i<(t.args.length:Int):=kM _ _ _
  generalize bo t.args c.link=L at*
  generalize hQ:(decide (s.effs.length=1)&&L.any fun i=>aj (eX s i (-1)) (ga (nth s.effs 0) (dc m s i)))=Q
  simp[aa,ho,C6,Be,Bc,Bb,w0,hl,ay0]
  rw[abD L (fun i=>decide (s.effs.length=1)&&aj (eX s i (-1)) (ga (nth s.effs 0) (dc m s i))) (fun k=>⟨[(6,ab false),(7,.ref 3 0),(9,.p (ints L)),(10,ai k)],[bx (ah m),bx (ax c),bx (bm t),bx (bP ⟨m,c,t,s⟩)]⟩)
   (fun k=>(.ret,⟨[(6,ab true),(7,.ref 3 0),(9,.p (ints L)),(10,ai k)],[bx (ah m),bx (ax c),bx (bm t),bx (bP ⟨m,c,t,s⟩)]⟩)) (by omega) (by simp[aa]) (by
     intro k x hk hx _ m9 K
     have w1:=aA hk (by omega)
     obtain⟨x0,x1⟩:=ny x m9
     have hr:=uu x x0 x1
     have Vl:=rk x x0 x1
     by_cases c4:s.effs.length=1
     rotate_left
     ·have fF:¬(s.effs.length:Int)=1:=by omega
      have e:decide (s.effs.length=1)=false:=by simpa using c4
      rw[e,Bool.false_and]
      simp[aa,hk,hx,fF,w1]
     have fF:(s.effs.length:Int)=1:=by omega
     have k0:0<s.effs.length:=by omega
     have oK:(0:Int)<s.effs.length:=by omega
     obtain⟨y0,fV,gQ,EN⟩:=ay (l:=s.effs) (k:=0) k0
     have gQ:nth s.effs 0=y0:=gQ
     have hg:=Br n (by omega) y0 (dc m s x) (hc.dp y0 EN).2
     have e:decide (s.effs.length=1)=true:=by simpa using c4
     rw[e,Bool.true_and,gQ]
     generalize ga y0 (dc m s x)=s1 at*
     generalize dc m s x=v1 at*
     cases jG:eX s x (-1)
     ·rw[jG] at hr
      simp[aa,hk,hx,eq_true fF,hr,w1]
     ·rw[jG] at hr
      cases s1<;>simp[aa,hk,hx,eq_true fF,hr,Vl,k0,oK,fV,hg,w1]) (by simp[aa])]
  have e5:(L.any fun i=>decide (s.effs.length=1)&&aj (eX s i (-1)) (ga (nth s.effs 0) (dc m s i)))=Q:=by
   rw[←hQ]
   cases decide (s.effs.length=1)
   ·simp
   ·simp
  rcases ao (fun i:Int=>decide (s.effs.length=1)&&aj (eX s i (-1)) (ga (nth s.effs 0) (dc m s i))) L with⟨e1,e2,_⟩|⟨i,e1,e2,_⟩
  ·rw[e2] at e5;subst e5;rw[e1];simp[aa]
  ·rw[e2] at e5;subst e5;rw[e1];simp[aa]
 ·rw[if_neg hl]
  have eZ:=LF (dL m) (by unfold dL;split<;>omega)
  have fW:=zn 5 [dj m c,eR m (dL m)]
  have p9:iR 5 m.address [dj m c,eR m (dL m)]=rK m c:=rfl
  rw[p9] at fW
  have HY:=zn 24 [dj m c]
  have RI:iR 24 m.address [dj m c]=rA m c:=rfl
  rw[RI] at HY
  have x_:=I0 hc.addr
  simp[aT] at fW HY
  have Ms:=fun e (he:e∈s.effs)=>c_ 80 n e.val (rK m c) (hc.dp e he).2 (by omega)
  have hg:=fun e (he:e∈s.effs)=>Br n (by omega) e (rA m c) (hc.dp e he).2
  have zC:=fun e=>ye n (by omega) e (-1)
  generalize dj m c=Va at*
  generalize eR m (dL m)=Vf at*
  generalize rK m c=bw at*
  generalize rA m c=dr at*
  generalize dL m=XR at*
  by_cases c4:s.effs.length=2
  rotate_left
  ·have fF:¬(s.effs.length:Int)=2:=by omega
   simp[aa,ho,C6,Be,Bc,Bb,w0,hl,c4,fF]
  have fF:(s.effs.length:Int)=2:=by omega
  have k0:0<s.effs.length:=by omega
  have k1:1<s.effs.length:=by omega
  have oK:(0:Int)<s.effs.length:=by omega
  have q_:(1:Int)<s.effs.length:=by omega
  obtain⟨y0,fV,gQ,EN⟩:=ay (l:=s.effs) (k:=0) k0
  obtain⟨y1,iB,kU,nX⟩:=ay (l:=s.effs) (k:=1) k1
  have gQ:nth s.effs 0=y0:=gQ
  have kU:nth s.effs 1=y1:=by exact_mod_cast kU
  have t2:=hg y1 nX
  have t4:=Ms y0 EN
  have t5:=zC y0
  unfold lJ
  rw[gQ,kU]
  generalize ga y1 dr=s2 at*
  generalize aI y0.val bw=s4 at*
  generalize fz y0 (-1)=s5 at*
  cases s5
  ·simp[aa,ho,C6,Be,Bc,Bb,w0,hl,c4,eq_true fF,k0,k1,oK,q_,fV,iB,cm,eZ,fW,x_,t5]
  by_cases c6:y0.reg=c.stack
  rotate_left
  ·simp[aa,ho,C6,Be,Bc,Bb,w0,hl,c4,eq_true fF,k0,k1,oK,q_,fV,iB,cm,eZ,fW,x_,t5,c6]
  cases s4
  ·simp[aa,ho,C6,Be,Bc,Bb,w0,hl,c4,eq_true fF,k0,k1,oK,q_,fV,iB,cm,eZ,fW,x_,t5,eq_true c6,t4]
  ·simp[aa,ho,C6,Be,Bc,Bb,w0,hl,c4,eq_true fF,k0,k1,oK,q_,fV,iB,cm,eZ,fW,HY,x_,t5,eq_true c6,t4,t2]
structure MV(m:aw):Prop where
 wb:qa m
 wr:QP m
 ins:∀s∈m.instrs,vW m s
 opds:∀s∈m.instrs,∀o∈s.opds,Bf m o
 dp:∀s∈m.instrs,∀e∈s.effs,Dp 80 e.addr∧Dp 80 e.val
 addr:m.address=16∨m.address=32
 nm:∀r∈m.regs,r.name.size≤1000000
structure CV(c:Conv):Prop where
 al:c.args.length≤100
 kl:c.kept.length≤100
 ml:c.moves.length≤100
 mv:∀x∈c.moves,x.copy.args.length≤100∧x.load.args.length≤100∧x.store.args.length≤100
 t1:c.adjust.args.length≤100
 t2:c.call.args.length≤100
 t3:c.leave.args.length≤100
 t4:c.nop.args.length≤100
theorem MV.mt{m:aw}(h:MV m){t:gf}(ht:t.args.length≤100):MT m t:=⟨h.wb,h.wr,ht,h.ins,h.opds,h.dp⟩
theorem MV.cmv{m:aw}{c:Conv}(h:MV m)(hc:CV c):Yg m c:=⟨hc.ml,fun x hx=>⟨h.mt (hc.mv x hx).1,h.mt (hc.mv x hx).2.1,h.mt (hc.mv x hx).2.2⟩,h.wb,h.wr⟩
def mo(m:aw)(c:Conv):Bool:=
 vh m c.stack&&(decide ((nth m.regs c.stack).of=-1)&&(decide ((nth m.regs c.stack).width=m.address)&&(decide (0≤c.bank)&&decide (c.bank<m.banks.length))))
def sG(m:aw)(c:Conv):Bool:=decide (c.link=-1)||(vh m c.link&&(decide ((nth m.regs c.link).width=m.address)&& !aP m c.link c.stack))
def vF(c:Conv):Bool:=([1,2,4,8,16]:List Int).any fun x=>decide (c.align=x)
def HH(m:aw)(c:Conv):Bool:=aG m c.nop false&&(decide ((nth m.instrs c.nop.instr).opds=[])&&decide ((nth m.instrs c.nop.instr).effs=[]))
def Fj(m:aw)(c:Conv):Bool:=
 (aG m c.adjust false&&zb (bc ⟨m,c⟩ c.adjust))&&((aG m c.call true&&JQ m c (nth m.instrs c.call.instr) c.call.args)&&((aG m c.leave false&&Jq m c (nth m.instrs c.leave.instr) c.leave.args)&&HH m c))
def gh(m:aw)(c:Conv)(CP:gf→Int→Bool):Bool:=mo m c&&(sG m c&&(vF c&&(xB m c CP&&(BK m c&&Fj m c))))
theorem O2(m:aw)(c:Conv):(aG m c.nop false&&aj (decide (c.nop.args=[])) (decide ((nth m.instrs c.nop.instr).effs=[])))=HH m c:=by
 unfold HH
 cases hs:aG m c.nop false
 ·rfl
 ·unfold aG at hs
  simp only[Bool.and_eq_true,decide_eq_true_eq] at hs
  have hl:=hs.2.2.1
  have:decide (c.nop.args=[])=decide ((nth m.instrs c.nop.instr).opds=[]):=by
   rw[decide_eq_decide,←List.length_eq_zero_iff,←List.length_eq_zero_iff,hl]
  rw[ak,this]
theorem wB{m:aw}{c:Conv}{CP:gf→Int→Bool}(hM:MV m)(hC:CV c)(h1:mo m c=true)(h2:sG m c=true)(h3:xB m c CP=true):agb m c:=by
 simp only[mo,Bool.and_eq_true,decide_eq_true_eq] at h1
 refine⟨hM.wb,h1.2.2.2.1,h1.2.2.2.2,cT.1 h1.1, ?_,hC.al,hC.kl,hC.ml, ?_⟩
 ·simp only[sG,Bool.or_eq_true,Bool.and_eq_true,decide_eq_true_eq] at h2
  rcases h2 with h2|h2
  ·omega
  ·exact(cT.1 h2.1).2
 ·intro x hx
  obtain⟨k,hk,rfl⟩:=List.getElem_of_mem hx
  simp only[xB,Bool.and_eq_true] at h3
  have:=List.all_eq_true.1 h3.2.1 k (List.mem_range.2 hk)
  unfold mJ xl at this
  rw[bq _ _ hk] at this
  simp only[Bool.and_eq_true,decide_eq_true_eq] at this
  exact this.1.1
theorem uW{m:aw}{c:Conv}{t:gf}{j:Bool}(hM:MV m)(ht:MT m t)(h1:mo m c=true)(hs:aG m t j=true):VC m c (nth m.instrs t.instr):=by
 simp only[mo,Bool.and_eq_true,decide_eq_true_eq] at h1
 have cm:=cT.1 h1.1
 exact⟨hM.addr,cm.1,cm.2,hM.nm,hM.dp _ (ht.fok c hs).2⟩
theorem Vy(n f:Nat){fn:Func}(hf:fs f=some fn)(hs:T.split f=true):R (n+1) f [.p (.sl [])] []=wR fun bs=>enter T (R n) (Y n) n f fn bs []:=by
 show run T fs (fun _ _ _=>none) (n+1) f [.p (.sl [])] []=_
 simp only[run,sys,aW,hf,aN]
 rw[if_pos ⟨hs,rfl⟩]
 rfl
def CI(l:List Int):Option (AV×Hp):=some (.arr 1 l.length 0 l.length,[.arr 0 1 false [],.arr l.length 1 false (l.map i64)])
theorem RZ(N:Nat)(hN:10≤N)(l:List Int)(hl:l.length≤1000):R N 22 [.p (ints l)] []=CI l:=by
 have aa:rows 22={own:=fun x=>if x=2 then 1 else 0}:=rfl
 obtain⟨n,rfl⟩:∃n,N=n+1:=⟨N-1,by omega⟩
 by_cases h:l=[]
 ·subst h
  show R (n+1) _ [.p (.sl [])] []=_
  rw[Vy _ _ (show fs 22=some Tryz.f22 from Tryz.func22) rfl]
  have e1:enter T (R n) (Y n) n 22 Tryz.f22 [.p .nils] []=some (.arr 1 0 0 0,[.arr 0 1 false [],.arr 0 1 false []]):=by
   rw[sW (fn:=Tryz.f22) rfl rfl rfl (Nat.le_of_ble_eq_true rfl)]
   have hn:oz (.slice 3) .eql .nils=⟨.p (.bool true),true⟩:=rfl
   simp[aa,hn]
  have e2:enter T (R n) (Y n) n 22 Tryz.f22 [.p .sle] []=some (.arr 1 0 0 0,[.arr 0 1 false [],.arr 0 1 false []]):=by
   rw[sW (fn:=Tryz.f22) rfl rfl rfl (Nat.le_of_ble_eq_true rfl)]
   have hn:oz (.slice 3) .eql .sle=⟨.p (.bool false),true⟩:=rfl
   have hp:∀hh,rM hh (.p .sle)=some []:=fun _=>rfl
   simp[aa,hn,hp]
  simp only[wR,e1,e2]
  rfl
 ·rw[Vx _ _ _ _ (show fs 22=some Tryz.f22 from Tryz.func22) (by cases l with|nil=>exact absurd rfl h|cons x r=>rfl),sW (fn:=Tryz.f22) rfl rfl rfl (Nat.le_of_ble_eq_true rfl)]
  have hn:oz (.slice 3) .eql (.sl (l.map i64))=⟨.p (.bool false),true⟩:=by
   cases l with
   |nil=>exact absurd rfl h
   |cons x r=>rfl
  have b1:l.length*8≤1099511627776:=by omega
  have b2:l.length≤1099511627776:=by omega
  unfold CI
  simp[aa,h,hn,b1,b2]
theorem abA(N:Nat)(p:eU)(t:gf)(to eE num:Int)(ht:t.args.length≤100)(hN:200≤N):R N 25 [ag (aD p),ag (bm t),ai to,ai eE,ai num] []=some (.agg [ai t.instr,.p (ints (t.args.map (vR to eE p.c.stack num)))],[]):=by
 have aa:rows 25=_:=w25.eq_1
 obtain⟨n,rfl⟩:=up N
 rw[aE 25 Tryz.func25 rfl rfl]
 have jb:R n 22 [.p (ints t.args)] []=CI t.args:=RZ n (by omega) t.args (by omega)
 unfold CI at jb
 simp[aa,jb]
 rw[abC t.args.length (fun k=>⟨[(2,ai to),(3,ai eE),(4,ai num),(5,.ref 0 0),(10,.ref 2 0),(11,.ref 5 0),(21,.arr 4 t.args.length 0 t.args.length),(22,ai t.args.length),(23,ai k)],[bx (aD p),bx (bm t),.box [ai 0,.p .nils],.arr 0 1 false [],.arr t.args.length 1 false (((t.args.take k).map (vR to eE p.c.stack num)++t.args.drop k).map i64),.box [ai t.instr,.arr 4 t.args.length 0 t.args.length]]⟩) (by omega) (by simp[aa]) (by
     intro k h K
     have w1:=aA h (by omega)
     obtain⟨x,hx,_,hm⟩:=ay h
     have hx:=hx h
     have hd:t.args.drop k=x::t.args.drop (k+1):=by rw[←hx];exact List.drop_eq_getElem_cons h
     have e:(t.args.take (k+1)).map (vR to eE p.c.stack num)++t.args.drop (k+1)=((t.args.take k).map (vR to eE p.c.stack num)++t.args.drop k).set k (vR to eE p.c.stack num x):=by
      rw[hd,List.set_append_right _ _ (by simp;omega),List.take_succ_eq_append_getElem h,hx]
      have:k-((t.args.take k).map (vR to eE p.c.stack num)).length=0:=by simp;omega
      rw[this];simp
     have hl:((t.args.take k).map (vR to eE p.c.stack num)++t.args.drop k).length=t.args.length:=by simp;omega
     have hg:((t.args.take k).map (vR to eE p.c.stack num)++t.args.drop k)[k]? =some x:=by
      rw[hd,List.getElem?_append_right (by simp;omega)]
      have:k-((t.args.take k).map (vR to eE p.c.stack num)).length=0:=by simp;omega
      rw[this];simp
     rw[e]
     generalize (t.args.take k).map (vR to eE p.c.stack num)++t.args.drop k=A at*
     have hA:∀h:k<A.length,A[k]=x:=fun h=>by rw[List.getElem?_eq_getElem h] at hg;exact Option.some.inj hg
     have hs:A.set k x=A:=by
      apply List.ext_getElem? ;intro i
      rw[List.getElem?_set];split
      ·subst i;rw[hg];simp;omega
      ·rfl
     by_cases h1:x=-1
     ·simp[aa,h,hx,hA,w1,hl,vR,h1,List.map_set]
     ·by_cases h2:x=-2
      ·simp[aa,h,hx,hA,w1,hl,vR,h2,List.map_set]
      ·by_cases h3:x=-3
       ·simp[aa,h,hx,hA,w1,hl,vR,h3,List.map_set]
       ·by_cases h4:x=-4<;>simp[aa,h,hx,hA,w1,hl,vR,h1,h2,h3,h4,hs,List.map_set]) (by simp[aa])]
 simp[aa]
end Go.En.V
