/- Part of the proof of CallingFills: engine, contracts or law, joined by a program from the texts E34 U50 U52 X1 X2 X3 X4 X5 X6 X7 X8. -/
import Derived.Test.YtlcechkalldhfaaGreatDoorKab
import Derived.Test.YtlcechkalldhfaaGreatDoorKac
import Derived.KernelRfl
import Derived.Test.YtlcechkalldhfaaGreatDoorProg
set_option linter.all false
set_option maxRecDepth 100000
set_option maxHeartbeats 4000000
namespace Go.En
structure Row where
 own:Nat→Nat:=fun _=>0
 keep:Nat→List Nat:=fun _=>[]
 seqs:Nat→List Nat:=fun _=>[]
 late:Nat→List (Nat×List Nat×List Nat):=fun _=>[]
 grow:Nat→List (Nat×Nat×Nat):=fun _=>[]
def cK:Code→Nat→List (Nat×List Nat×Code×Code)
 | .seq a b,_=>cK a 0++cK b 0
 | .cond _ a b,_=>cK a 0++cK b 0
 | .block k c,_=>cK c k
 | .loop c,_=>cK c 0
 | .scope c,_=>cK c 0
 | .rangeFunc _ ps a b,k=>(k,ps.toList,a,b)::(cK a 0++cK b 0)
 |_,_=>[]
def pM(fs:Nat→Option Func)(f id:Nat):Option (List Nat×Code×Code):=
 (fs f).bind fun fn=>fn.body.bind fun c=>((cK c 0).find? fun r=>r.1==id).map (·.2)
theorem qS{T:cX}{f:Nat}:∀(c:Code) (k:Nat),(∀r∈cK c k,T.loops f r.1=some r.2)→cS T f c k:=by
 intro c
 induction c with
 |seq a b PB PA=>intro k h;exact⟨PB 0 fun r hr=>h r (List.mem_append_left _ hr),PA 0 fun r hr=>h r (List.mem_append_right _ hr)⟩
 |cond _ a b PB PA=>intro k h;exact⟨PB 0 fun r hr=>h r (List.mem_append_left _ hr),PA 0 fun r hr=>h r (List.mem_append_right _ hr)⟩
 |block j c ih=>intro k h;exact ih j h
 |loop c ih=>intro k h;exact ih 0 h
 |scope c ih=>intro k h;exact ih 0 h
 |rangeFunc g ps a b PB PA=>
  intro k h
  exact⟨h _ (List.mem_cons_self ..),PB 0 fun r hr=>h r (List.mem_cons_of_mem _ (List.mem_append_left _ hr)),PA 0 fun r hr=>h r (List.mem_cons_of_mem _ (List.mem_append_right _ hr))⟩
 |_=>intro k _;trivial
theorem DQ{T:cX}{f:Nat}:∀(c:Code) (k:Nat),cO T f c=true→(∀r∈cK c k,T.loops f r.1=some r.2)→∀r∈cK c k,cO T f r.2.2.1=true∧cO T f r.2.2.2=true∧cS T f r.2.2.1 0∧cS T f r.2.2.2 0:=by
 intro c
 induction c with
 |seq a b PB PA=>
  intro k hb h r hr
  simp only[cO,Bool.and_eq_true] at hb
  rcases List.mem_append.1 hr with hr|hr
  ·exact PB 0 hb.1 (fun r hr=>h r (List.mem_append_left _ hr)) r hr
  ·exact PA 0 hb.2 (fun r hr=>h r (List.mem_append_right _ hr)) r hr
 |cond _ a b PB PA=>
  intro k hb h r hr
  simp only[cO,Bool.and_eq_true] at hb
  rcases List.mem_append.1 hr with hr|hr
  ·exact PB 0 hb.1 (fun r hr=>h r (List.mem_append_left _ hr)) r hr
  ·exact PA 0 hb.2 (fun r hr=>h r (List.mem_append_right _ hr)) r hr
 |block j c ih=>intro k hb h r hr;exact ih j hb h r hr
 |loop c ih=>intro k hb h r hr;exact ih 0 hb h r hr
 |scope c ih=>intro k hb h r hr;exact ih 0 hb h r hr
 |rangeFunc g ps a b PB PA=>
  intro k hb h r hr
  simp only[cO,Bool.and_eq_true] at hb
  have ha:∀r∈cK a 0,T.loops f r.1=some r.2:=fun r hr=>h r (List.mem_cons_of_mem _ (List.mem_append_left _ hr))
  have p9:∀r∈cK b 0,T.loops f r.1=some r.2:=fun r hr=>h r (List.mem_cons_of_mem _ (List.mem_append_right _ hr))
  rcases List.mem_cons.1 hr with rfl|hr
  ·exact⟨hb.1,hb.2,qS a 0 ha,qS b 0 p9⟩
  rcases List.mem_append.1 hr with hr|hr
  ·exact PB 0 hb.1 ha r hr
  ·exact PA 0 hb.2 p9 r hr
 |_=>intro k _ _ r hr;cases hr
theorem yp{α:Type}:∀{l:List (Nat×α)},fL (l.map (·.1))=true→∀r∈l,(l.find? fun x=>x.1==r.1).map (·.2)=some r.2
 |[],_,r,hr=>by cases hr
 |x::l,h,r,hr=>by
  simp only[List.map_cons,fL,Bool.and_eq_true,Bool.not_eq_true'] at h
  rcases List.mem_cons.1 hr with rfl|hr
  ·simp
  ·have fB:¬(x.1==r.1)=true:=by
    intro e
    have e:=eq_of_beq e
    have:(l.map (·.1)).contains x.1=true:=by
     rw[e];simp only[List.contains_iff_mem];exact List.mem_map_of_mem hr
    rw[this] at h;cases h.1
   have:(x::l).find? (fun x=>x.1==r.1)=l.find? (fun x=>x.1==r.1):=List.find?_cons_of_neg (p:=fun (x:Nat×α)=>x.1==r.1) fB
   rw[this]
   exact yp h.2 r hr
def qp(T:cX)(f:Nat)(fn:Func):Bool:=
 !(fn.name== "runtime.NumGoroutine")&&match fn.body with
   |some c=>cO T f c&&fL ((cK c 0).map (·.1))
   |none=>true
def vV(T:cX)(P:Program)(k n:Nat):Bool:=(List.range n).all fun i=>match P.funcs[k+i]? with
 |some fn=>qp T (k+i) fn
 |none=>true
theorem gI{T:cX}{P:Program}{k n:Nat}(h:vV T P k n=true){f:Nat}{fn:Func}(h1:k≤f)(h2:f<k+n)(hf:P.funcs[f]? =some fn):qp T f fn=true:=by
 simp only[vV,List.all_eq_true,List.mem_range] at h
 have:=h (f-k) (by omega)
 rw[show k+(f-k)=f from by omega,hf] at this
 exact this
theorem adi{T:cX}{P:Program}{fs:Nat→Option Func}(hl:T.loops=pM fs)(Nr:∀f fn,fs f=some fn→P.funcs[f]? =some fn∧qp T f fn=true):
  (∀f fn,fs f=some fn→P.funcs[f]? =some fn∧(fn.name== "runtime.NumGoroutine")=false∧∀c,fn.body=some c→cO T f c=true∧cS T f c 0)∧
  (∀f h_ l,T.loops f h_=some l→cO T f l.2.1=true∧cO T f l.2.2=true∧cS T f l.2.1 0∧cS T f l.2.2 0):=by
 have key:∀f fn c,fs f=some fn→fn.body=some c→cO T f c=true∧∀r∈cK c 0,T.loops f r.1=some r.2:=fun f fn c h hc=>by
  have h2:=(Nr f fn h).2
  simp only[qp,hc,Bool.and_eq_true] at h2
  refine⟨h2.2.1,fun r hr=> ?_⟩
  rw[hl,pM,h,Option.bind_some,hc,Option.bind_some]
  exact yp h2.2.2 r hr
 refine⟨fun f fn h=> ?_,fun f h_ l h=> ?_⟩
 ·obtain⟨h1,h2⟩:=Nr f fn h
  refine⟨h1, ?_,fun c hc=> ?_⟩
  ·simp only[qp,Bool.and_eq_true,Bool.not_eq_true'] at h2;exact h2.1
  ·obtain⟨h3,h4⟩:=key f fn c h hc
   exact⟨h3,qS c 0 h4⟩
 ·rw[hl] at h
  simp only[pM,Option.bind_eq_some_iff,Option.map_eq_some_iff] at h
  obtain⟨fn,h1,c,h2,r,h3,rfl⟩:=h
  obtain⟨h4,h5⟩:=key f fn c h1 h2
  exact DQ c 0 h4 h5 r (List.mem_of_find?_eq_some h3)
theorem OB{T:cX}{fs:Nat→Option Func}{n f:Nat}{a:List AV}{h:Hp}{fn:Func}(hf:fs f=some fn)(hs:T.split f=false):
  run T fs (fun _ _ _=>none) (n+1) f a h=enter T (run T fs (fun _ _ _=>none) n) (sys T fs (fun _ _ _=>none) n).2 n f fn a h:=by
 simp only[run,sys,aW,hf,aN]
 rw[if_neg (by rw[hs];simp)]
theorem Kt{T:cX}{fs:Nat→Option Func}{n f:Nat}{a:List AV}{h:Hp}{fn:Func}(hf:fs f=some fn)(hs:kT a h=false):
  run T fs (fun _ _ _=>none) (n+1) f a h=enter T (run T fs (fun _ _ _=>none) n) (sys T fs (fun _ _ _=>none) n).2 n f fn a h:=by
 simp only[run,sys,aW,hf,aN]
 rw[if_neg (by rw[hs];simp)]
end Go.En
namespace Go.En.V
open Go.Proofs
def w3:Row:={keep:=fun x=>if x=0 then [4,7,8,12,13] else []}
def w5:Row:={keep:=fun x=>if x=0 then [1,2,3] else if x=2 then [1,2,4] else if x=4 then [1,2,4,5,6] else if x=6 then [1,2,4,5,7] else []}
def w6:Row:={own:=fun x=>if x=29 then 999999 else if x=57 then 999999 else 0,keep:=fun x=>if x=0 then [1,2,3] else [],seqs:=fun x=>if x=6 then [19] else []}
def w7:Row:={keep:=fun x=>if x=0 then [1,2,3] else [],seqs:=fun x=>if x=1 then [9,11] else if x=7 then [26] else if x=8 then [13,15,17,19] else [],late:=fun x=>if x=1 then [(3,[2],[1,2,0]),(7,[3],[0,2,1,3,5,6,4])] else if x=7 then [(20,[4],[18,17,15,13,14,16,12,10,8,9,11,7,6,5,4,3,0,19]),(23,[4],[21,20,19,18,17,15,13,14,16,12,11,10,9,8,7,6,5,4,3,0,1,22])] else []}
def w8:Row:={own:=fun x=>if x=6 then 1 else 0}
def w9:Row:={own:=fun x=>if x=6 then 1 else if x=9 then 1 else if x=56 then 999999 else 0,keep:=fun x=>if x=0 then [2,3,4,8,9,10] else []}
def w10:Row:={keep:=fun x=>if x=0 then [0,1,4,5] else []}
def w15:Row:={keep:=fun x=>if x=0 then [1,3,4] else if x=2 then [1,3,4,5] else []}
def w16:Row:={keep:=fun x=>if x=0 then [0,2,3] else []}
def w22:Row:={own:=fun x=>if x=2 then 1 else 0}
def w25:Row:={keep:=fun x=>if x=0 then [2,3,4,5,10,11,21,22,23] else [],seqs:=fun x=>if x=1 then [7] else []}
def w26:Row:={keep:=fun x=>if x=0 then [2,3,4,37,38,39] else []}
def w27:Row:={own:=fun x=>if x=46 then 999999 else 0,keep:=fun x=>if x=0 then [2,3,4,5,6,10,11,12] else [],grow:=fun x=>if x=0 then [(11,(1,1))] else []}
def w29:Row:={keep:=fun x=>if x=0 then [0,1,4,5] else []}
def U':Row:={keep:=fun x=>if x=0 then [1,2,3,6,7,8,9] else []}
def w31:Row:={keep:=fun x=>if x=0 then [1,2,3] else []}
def w32:Row:={keep:=fun x=>if x=0 then [1,3,4] else []}
def w33:Row:={own:=fun x=>if x=4 then 1 else if x=28 then 999999 else if x=52 then 999999 else 0,keep:=fun x=>if x=0 then [3,4,37,38,39] else [],seqs:=fun x=>if x=4 then [16] else []}
def w34:Row:={own:=fun x=>if x=79 then 999999 else if x=83 then 999999 else 0,seqs:=fun x=>if x=2 then [3] else if x=4 then [7,30] else []}
def RK:Row:={keep:=fun x=>if x=0 then [0,1,4,7,8] else []}
def Gu:Row:={keep:=fun x=>if x=0 then [1,2,3] else if x=2 then [1,2,3,4,5] else []}
def YT:Row:={seqs:=fun x=>if x=1 then [3] else if x=3 then [7,27] else []}
def w39:Row:={seqs:=fun x=>if x=8 then [8] else []}
def w41:Row:={keep:=fun x=>if x=0 then [2,3,4,5,6] else [],seqs:=fun x=>if x=11 then [6] else if x=13 then [11] else []}
def YS:Row:={keep:=fun x=>if x=0 then [1,3,37,38,39] else if x=2 then [3,53,54,55] else if x=4 then [3,53,54,55,75,76,77] else []}
def YR:Row:={keep:=fun x=>if x=0 then [0,6,7,8] else []}
def YQ:Row:={keep:=fun x=>if x=0 then [0,2,15,16] else []}
def YP:Row:={own:=fun x=>if x=2 then 1 else if x=14 then 999999 else if x=33 then 999999 else if x=64 then 999999 else if x=74 then 999999 else if x=89 then 999999 else 0,keep:=fun x=>if x=0 then [0,2,20,21,22] else [],seqs:=fun x=>if x=5 then [8] else if x=10 then [9] else if x=6 then [10] else if x=7 then [21] else [],late:=fun x=>if x=5 then [(3,[1,2],[1,2])] else []}
def YO:Row:={own:=fun x=>if x=2 then 1 else if x=25 then 999999 else if x=52 then 999999 else if x=81 then 999999 else 0,keep:=fun x=>if x=0 then [0,2,11,12,13] else if x=2 then [0,2,4,11,12,13,28,29,30] else [],seqs:=fun x=>if x=4 then [9] else if x=8 then [18] else if x=10 then [24] else [],late:=fun x=>if x=4 then [(3,[1,2],[1,2])] else []}
def YN:Row:={own:=fun x=>if x=2 then 1 else if x=13 then 999999 else if x=32 then 999999 else 0,keep:=fun x=>if x=0 then [0,2,19,20,21] else [],seqs:=fun x=>if x=5 then [8] else [],late:=fun x=>if x=5 then [(3,[1,2],[1,2])] else []}
def YM:Row:={own:=fun x=>if x=23 then 999999 else 0}
def YL:Row:={own:=fun x=>if x=32 then 999999 else if x=50 then 999999 else if x=61 then 999999 else if x=134 then 999999 else 0,keep:=fun x=>if x=0 then [0,3,4,5,39,40,41] else if x=2 then [0,3,9,10,77,78,79] else [],seqs:=fun x=>if x=1 then [19] else if x=22 then [39] else []}
def YK:Row:={keep:=fun x=>if x=0 then [1,2,3,4,25,26,27] else if x=2 then [1,3,4,6,7,25,26,27,63,64,65] else [],seqs:=fun x=>if x=15 then [5] else []}
def YJ:Row:={own:=fun x=>if x=34 then 999999 else if x=52 then 999999 else if x=89 then 999999 else if x=129 then 999999 else 0,keep:=fun x=>if x=0 then [1,2,3,39,40,41] else if x=2 then [1,2,3,65,66,67] else [],seqs:=fun x=>if x=13 then [2,7,18,25,34] else []}
def YI:Row:={keep:=fun x=>if x=0 then [1,2,3] else if x=2 then [1,2,4] else if x=4 then [1,2,4,5] else []}
def YH:Row:={keep:=fun x=>if x=0 then [0,2,3] else []}
def YG:Row:={keep:=fun x=>if x=0 then [1,2,3] else if x=2 then [1,2,3,4,5] else []}
def YF:Row:={keep:=fun x=>if x=0 then [1,2,3] else if x=2 then [1,2,3,4,5] else if x=4 then [1,2,3,4,6] else if x=6 then [1,2,3,4,6,7] else [],seqs:=fun x=>if x=15 then [9] else []}
def YE:Row:={keep:=fun x=>if x=0 then [1,2,3] else if x=2 then [1,2,3,4] else []}
def YD:Row:={keep:=fun x=>if x=0 then [2,3,4,5] else if x=2 then [2,3,4,6] else if x=4 then [2,3,4,7,8,9] else [],seqs:=fun x=>if x=6 then [7] else if x=19 then [7] else []}
def YC:Row:={keep:=fun x=>if x=0 then [2,3,4,5,6] else if x=2 then [2,3,4,5,6,7,8,9,10] else if x=4 then [2,3,4,5,6,7,8,9,10,11] else [],seqs:=fun x=>if x=18 then [9] else []}
def YB:Row:={own:=fun x=>if x=45 then 999999 else if x=87 then 999999 else if x=141 then 999999 else if x=209 then 999999 else 0,keep:=fun x=>if x=0 then [2,3,4,5] else if x=2 then [2,3,4,5,6] else if x=4 then [2,3,4,7] else if x=6 then [2,3,9,10] else [],seqs:=fun x=>if x=6 then [6,17,32] else if x=19 then [2,8,19,27,37] else []}
def YA:Row:={own:=fun x=>if x=102 then 999999 else 0,keep:=fun x=>if x=0 then [6,7,9,10,11,12,13,14,15] else [],seqs:=fun x=>if x=4 then [3] else if x=12 then [5] else if x=14 then [7] else if x=15 then [18] else []}
def U_:Row:={own:=fun x=>if x=58 then 999999 else if x=108 then 999999 else 0,seqs:=fun x=>if x=4 then [16] else if x=7 then [7,24,32] else if x=8 then [11] else if x=9 then [16,24,30,47,55] else []}
def U9:Row:={own:=fun x=>if x=98 then 999999 else if x=124 then 999999 else 0,keep:=fun x=>if x=0 then [6,7,9,10] else [],seqs:=fun x=>if x=9 then [11,25] else if x=15 then [11] else if x=16 then [1,13,26] else []}
def Yz:Row:={keep:=fun x=>if x=0 then [2,6,7,8] else []}
def Yy:Row:={keep:=fun x=>if x=0 then [0,1,4,7,8] else []}
def w72:Row:={seqs:=fun x=>if x=6 then [6] else if x=7 then [11] else []}
def Yx:Row:={keep:=fun x=>if x=0 then [1,2,4,5] else []}
def Yw:Row:={own:=fun x=>if x=6 then 999999 else 0}
def Yv:Row:={own:=fun x=>if x=51 then 999999 else if x=69 then 999999 else if x=78 then 999999 else if x=96 then 999999 else if x=129 then 999999 else if x=141 then 999999 else if x=165 then 999999 else if x=195 then 999999 else 0,keep:=fun x=>if x=0 then [0,2,4,6,7,20,21,22] else [],seqs:=fun x=>if x=5 then [26] else if x=15 then [15] else if x=20 then [22] else if x=21 then [11] else if x=29 then [23] else []}
def Yu:Row:={keep:=fun x=>if x=0 then [0,3,5,21,22,23] else if x=2 then [0,5,35,36,37] else [],seqs:=fun x=>if x=10 then [9] else []}
def Yt:Row:={own:=fun x=>if x=19 then 999999 else if x=25 then 999999 else if x=30 then 999999 else if x=39 then 999999 else if x=41 then 999999 else if x=44 then 999999 else if x=77 then 999999 else if x=112 then 999999 else if x=120 then 999999 else if x=125 then 999999 else if x=136 then 999999 else if x=141 then 999999 else if x=148 then 999999 else if x=159 then 999999 else if x=163 then 999999 else if x=170 then 999999 else if x=177 then 999999 else if x=186 then 999999 else if x=188 then 999999 else 0,seqs:=fun x=>if x=9 then [13] else if x=10 then [16] else if x=13 then [15] else if x=16 then [20] else if x=18 then [15] else []}
def Zj:Row:={keep:=fun x=>if x=0 then [2,6,7,8,49,50,51] else if x=2 then [6,8,11,86,87,88] else [],seqs:=fun x=>if x=3 then [12] else []}
def Ys:Row:={keep:=fun x=>if x=0 then [0,1,5] else []}
def Yr:Row:={keep:=fun x=>if x=0 then [0,1,5] else []}
def Yq:Row:={keep:=fun x=>if x=0 then [2,3,4,6,7,8] else [],seqs:=fun x=>if x=23 then [11,15] else []}
def Yp:Row:={keep:=fun x=>if x=0 then [2,3,4,5] else if x=2 then [2,3,5,6,7] else if x=4 then [2,3,5,6,7,8] else []}
def Yo:Row:={seqs:=fun x=>if x=6 then [6] else if x=7 then [10] else []}
def Yn:Row:={keep:=fun x=>if x=0 then [4,5,6,7,8,9,10] else []}
def Ym:Row:={seqs:=fun x=>if x=4 then [3] else if x=5 then [24,33] else if x=8 then [7] else if x=11 then [6] else []}
def Yl:Row:={seqs:=fun x=>if x=8 then [4,15] else []}
def Yk:Row:={seqs:=fun x=>if x=8 then [10,18] else []}
def Yj:Row:={keep:=fun x=>if x=0 then [1,2,3,6,7] else [],seqs:=fun x=>if x=4 then [12] else []}
def Yi:Row:={keep:=fun x=>if x=0 then [2,3,4,6,7] else [],seqs:=fun x=>if x=4 then [8] else []}
def Zi:Row:={keep:=fun x=>if x=0 then [3,6,8,9,10,11] else [],seqs:=fun x=>if x=3 then [11] else []}
def Yh:Row:={own:=fun x=>if x=4 then 1 else if x=5 then 1 else if x=25 then 999999 else 0,keep:=fun x=>if x=0 then [1,2,5,6] else []}
def aai:Row:={keep:=fun x=>if x=0 then [1,2,4,5,6] else [],seqs:=fun x=>if x=6 then [7] else []}
def aah:Row:={keep:=fun x=>if x=0 then [2,3,4,5] else [],seqs:=fun x=>if x=6 then [10] else []}
def aag:Row:={seqs:=fun x=>if x=3 then [9] else []}
def aaf:Row:={seqs:=fun x=>if x=1 then [9] else []}
def aae:Row:={seqs:=fun x=>if x=1 then [14] else []}
def aad:Row:={keep:=fun x=>if x=0 then [0,3,4] else []}
def aac:Row:={keep:=fun x=>if x=0 then [1,3,4] else []}
def aab:Row:={keep:=fun x=>if x=0 then [0,3,4] else []}
def aaa:Row:={keep:=fun x=>if x=0 then [0,1,4,7,8] else []}
def Z':Row:={own:=fun x=>if x=18 then 999999 else 0,keep:=fun x=>if x=0 then [0,1,8,9,10] else []}
def Z_:Row:={keep:=fun x=>if x=0 then [2,5,6,7] else []}
def Z9:Row:={keep:=fun x=>if x=0 then [0,1,4,7,8] else []}
def NQ:Row:={seqs:=fun x=>if x=7 then [7] else []}
def NP:Row:={seqs:=fun x=>if x=4 then [5,18] else []}
def NO:Row:={seqs:=fun x=>if x=4 then [12,21] else []}
def NN:Row:={own:=fun x=>if x=48 then 999999 else if x=101 then 999999 else 0,seqs:=fun x=>if x=4 then [20] else if x=6 then [7,26,34] else if x=7 then [13] else if x=8 then [16,24,32,40] else []}
def NM:Row:={own:=fun x=>if x=48 then 999999 else if x=59 then 999999 else 0,seqs:=fun x=>if x=6 then [20,31] else []}
def Z8:Row:={keep:=fun x=>if x=0 then [1,2,4,5] else []}
def Z7:Row:={own:=fun x=>if x=2 then 1 else if x=3 then 1 else if x=21 then 999999 else 0,keep:=fun x=>if x=0 then [1,3,4] else []}
def Z6:Row:={own:=fun x=>if x=67 then 999999 else 0,keep:=fun x=>if x=0 then [2,3,4,5] else if x=2 then [2,3,4,6,7] else [],seqs:=fun x=>if x=5 then [7,8] else if x=11 then [10,12] else [],grow:=fun x=>if x=2 then [(6,(5,6))] else []}
def n9:Row:={own:=fun x=>if x=80 then 999999 else 0,seqs:=fun x=>if x=1 then [6] else if x=4 then [5,12,20] else if x=6 then [17] else []}
def Z5:Row:={keep:=fun x=>if x=0 then [2,3,4,5] else if x=2 then [2,3,4,5,6] else [],seqs:=fun x=>if x=9 then [14] else []}
def Z4:Row:={own:=fun x=>if x=20 then 999999 else if x=36 then 999999 else 0,keep:=fun x=>if x=1 then [0,1,39,40,41] else [],seqs:=fun x=>if x=5 then [13] else []}
def NL:Row:={own:=fun x=>if x=4 then 1 else if x=5 then 1 else if x=21 then 999999 else 0,keep:=fun x=>if x=0 then [1,5,9,10,11] else []}
def Z3:Row:={own:=fun x=>if x=7 then 6 else if x=53 then 999999 else 0,keep:=fun x=>if x=0 then [2,3,4,12,13,14] else if x=2 then [2,3,4,7,43,44,45] else [],seqs:=fun x=>if x=5 then [6,7] else []}
def Z2:Row:={own:=fun x=>if x=59 then 999999 else 0,late:=fun x=>if x=4 then [(12,[1],[0,11,1,8,5,6,7,2,3,4,9])] else []}
def Z1:Row:={own:=fun x=>if x=15 then 999999 else 0,seqs:=fun x=>if x=1 then [12] else []}
def Z0:Row:={seqs:=fun x=>if x=1 then [17] else []}
def ZZ:Row:={seqs:=fun x=>if x=1 then [2,10] else []}
def ZY:Row:={keep:=fun x=>if x=0 then [2,3,4] else if x=2 then [2,3,4,5] else []}
def ZX:Row:={keep:=fun x=>if x=0 then [3,4,5,6,7] else [],seqs:=fun x=>if x=8 then [7] else []}
def ZW:Row:={own:=fun x=>if x=31 then 999999 else 0,keep:=fun x=>if x=0 then [1,2,3,4] else [],seqs:=fun x=>if x=5 then [9,11] else [],grow:=fun x=>if x=0 then [(3,(5,6))] else []}
def Bl:Row:={own:=fun x=>if x=40 then 999999 else 0,keep:=fun x=>if x=0 then [1,2,3,4,5] else [],seqs:=fun x=>if x=6 then [9,11] else [],grow:=fun x=>if x=0 then [(3,(5,6))] else []}
def ZV:Row:={keep:=fun x=>if x=0 then [3,7,8,9] else []}
def ZU:Row:={keep:=fun x=>if x=0 then [0,1,4,7,8] else []}
def ZT:Row:={own:=fun x=>if x=3 then 6 else if x=16 then 999999 else 0,keep:=fun x=>if x=0 then [1,2,3,7,8,9] else []}
def GH:Row:={own:=fun x=>if x=3 then 6 else if x=22 then 999999 else 0,keep:=fun x=>if x=0 then [1,2,3,13,14,15] else if x=2 then [1,2,36,37,38] else []}
def ZS:Row:={keep:=fun x=>if x=0 then [1,2,6,15,16,17] else []}
def ZR:Row:={keep:=fun x=>if x=0 then [1,3,4] else []}
def ZQ:Row:={keep:=fun x=>if x=0 then [1,2,3] else []}
def ZP:Row:={own:=fun x=>if x=2 then 3 else if x=3 then 3 else if x=14 then 999999 else 0,keep:=fun x=>if x=0 then [1,3,4] else []}
def ZO:Row:={keep:=fun x=>if x=0 then [2,3,4,5,8,9] else if x=2 then [2,3,4,8,10] else []}
def qz:Row:={own:=fun x=>if x=9 then 1 else if x=55 then 999999 else 0,keep:=fun x=>if x=0 then [1,2,3,9,10] else [],seqs:=fun x=>if x=15 then [6] else if x=22 then [12] else if x=25 then [8] else if x=29 then [9] else if x=32 then [7] else if x=33 then [9] else []}
def ZN:Row:={seqs:=fun x=>if x=1 then [4] else []}
def NK:Row:={keep:=fun x=>if x=0 then [1,4,12,13,14] else []}
def ZM:Row:={late:=fun x=>if x=3 then [(8,[0],[1,0,2])] else []}
def ZL:Row:={seqs:=fun x=>if x=11 then [1,8] else []}
def NJ:Row:={keep:=fun x=>if x=0 then [1,2,3,19,20,21] else []}
def aw4:Row:={own:=fun x=>if x=2 then 1 else if x=5 then 999999 else if x=7 then 999999 else if x=11 then 999999 else if x=16 then 999999 else if x=24 then 999999 else if x=33 then 999999 else if x=42 then 999999 else if x=48 then 999999 else if x=53 then 999999 else if x=58 then 999999 else if x=63 then 999999 else if x=66 then 999999 else if x=70 then 999999 else if x=74 then 999999 else if x=80 then 999999 else if x=84 then 999999 else if x=86 then 999999 else if x=88 then 999999 else if x=90 then 999999 else if x=92 then 999999 else if x=94 then 999999 else 0}
def aw3:Row:={keep:=fun x=>if x=0 then [0,1,4,5,6] else []}
def ZK:Row:={own:=fun x=>if x=44 then 999999 else if x=47 then 999999 else 0,keep:=fun x=>if x=0 then [2,3,10,11] else []}
def aw2:Row:={keep:=fun x=>if x=0 then [0,1,2,3,9,10,11] else []}
def ic:Row:={own:=fun x=>if x=13 then 1 else if x=106 then 999999 else 0,keep:=fun x=>if x=1 then [0,1,10,11,13,14] else []}
def ZJ:Row:={keep:=fun x=>if x=0 then [1,2,3,6,7,12,36,37,38] else [],seqs:=fun x=>if x=19 then [8] else []}
def aw1:Row:={own:=fun x=>if x=2 then 1 else 0}
def ZI:Row:={late:=fun x=>if x=2 then [(14,[1],[5,3,4,6,1,0,2])] else []}
def ZH:Row:={late:=fun x=>if x=3 then [(20,[1],[13,11,9,7,5,4,6,8,10,12,17,15,14,16,18,2,0,1,3])] else []}
def ZG:Row:={seqs:=fun x=>if x=4 then [10] else []}
def ZF:Row:={late:=fun x=>if x=1 then [(12,[1],[2,0,1,3])] else []}
def ZE:Row:={keep:=fun x=>if x=0 then [0,3,4] else []}
def ZD:Row:={own:=fun x=>if x=2 then 1 else if x=3 then 1 else if x=17 then 999999 else 0,keep:=fun x=>if x=0 then [0,3,4] else []}
def ZC:Row:={own:=fun x=>if x=4 then 1 else if x=5 then 1 else if x=16 then 999999 else 0,keep:=fun x=>if x=0 then [0,1,5,6] else []}
def ZB:Row:={own:=fun x=>if x=6 then 1 else if x=7 then 1 else if x=30 then 999999 else 0,keep:=fun x=>if x=0 then [0,1,2,7,8] else []}
def aw0:Row:={own:=fun x=>if x=2 then 1 else 0}
def ZA:Row:={keep:=fun x=>if x=0 then [0,3,4] else []}
def awZ:Row:={keep:=fun x=>if x=0 then [0,1,4,5] else []}
def Zz:Row:={own:=fun x=>if x=4 then 1 else 0,keep:=fun x=>if x=0 then [0,1,5,6] else []}
def Zy:Row:={own:=fun x=>if x=6 then 1 else if x=7 then 1 else if x=22 then 999999 else if x=30 then 999999 else if x=41 then 999999 else 0,keep:=fun x=>if x=0 then [0,1,2,7,8] else []}
def Zx:Row:={keep:=fun x=>if x=0 then [0,3] else []}
def Zw:Row:={own:=fun x=>if x=4 then 1 else if x=5 then 1 else if x=28 then 999999 else 0,keep:=fun x=>if x=0 then [0,6,7,8,9] else []}
def Zv:Row:={keep:=fun x=>if x=0 then [0,1,4,5] else []}
def Zu:Row:={keep:=fun x=>if x=0 then [0,1,4,7,8] else []}
def Zt:Row:={own:=fun x=>if x=2 then 3 else if x=7 then 3 else if x=31 then 999999 else 0,keep:=fun x=>if x=0 then [7,21] else []}
def awY:Row:={keep:=fun x=>if x=0 then [0,2,8,9,10] else [],seqs:=fun x=>if x=6 then [2,9] else []}
def awX:Row:={keep:=fun x=>if x=0 then [0,2,8,9,10] else []}
def awW:Row:={keep:=fun x=>if x=0 then [0,1,2,8,9,10] else []}
def qy:Row:={keep:=fun x=>if x=1 then [1,2,3,7,25,26,27] else [],seqs:=fun x=>if x=22 then [10] else []}
def Zs:Row:={seqs:=fun x=>if x=1 then [14,15] else []}
def Zr:Row:={seqs:=fun x=>if x=1 then [14,15] else []}
def Zp:Row:={seqs:=fun x=>if x=1 then [11,12] else []}
def Zo:Row:={seqs:=fun x=>if x=1 then [6,7] else []}
def awV:Row:={own:=fun x=>if x=2 then 1 else 0}
def NI:Row:={own:=fun x=>if x=20 then 999999 else 0}
def Zn:Row:={own:=fun x=>if x=13 then 999999 else 0}
def Zm:Row:={own:=fun x=>if x=26 then 999999 else 0}
def awU:Row:={keep:=fun x=>if x=0 then [0,1,2,9,15,16] else []}
def Zl:Row:={own:=fun x=>if x=23 then 999999 else 0}
def awT:Row:={keep:=fun x=>if x=0 then [0,1,2,3,4,10,11] else [],seqs:=fun x=>if x=17 then [13] else []}
def Zk:Row:={keep:=fun x=>if x=0 then [0,4,10,11,12] else []}
def awS:Row:={keep:=fun x=>if x=0 then [0,1,2,8,9,10] else []}
def awR:Row:={keep:=fun x=>if x=0 then [0,1,2,3,8] else if x=2 then [0,1,2,3,8,9] else [],seqs:=fun x=>if x=4 then [14] else if x=6 then [17] else []}
def awQ:Row:={keep:=fun x=>if x=0 then [0,3,8,9,10,11] else if x=2 then [0,3,8,9,12] else [],seqs:=fun x=>if x=10 then [19] else []}
def awP:Row:={keep:=fun x=>if x=0 then [0,1,8,9,10,11] else [],seqs:=fun x=>if x=10 then [19] else []}
def awO:Row:={keep:=fun x=>if x=0 then [0,8,9] else [],seqs:=fun x=>if x=3 then [15] else []}
def awN:Row:={keep:=fun x=>if x=0 then [0,1,2,3,8,9,10] else if x=2 then [0,1,2,3,9,10] else if x=4 then [0,1,2,3,9,10,11] else if x=6 then [0,1,2,3,9,10,12] else [],seqs:=fun x=>if x=5 then [14] else if x=11 then [17] else if x=16 then [10] else if x=17 then [17] else if x=22 then [10] else if x=23 then [17] else []}
def awM:Row:={keep:=fun x=>if x=0 then [0,1,4,11,12] else if x=2 then [0,1,4,11,12] else if x=4 then [0,1,4,11,12] else [],seqs:=fun x=>if x=1 then [15] else if x=3 then [13] else if x=5 then [13] else if x=8 then [15] else []}
def awL:Row:={keep:=fun x=>if x=0 then [0,1,4,12,13] else if x=2 then [0,1,4,12,13] else if x=4 then [0,1,4,12,13] else if x=6 then [0,1,4,12,13] else if x=8 then [0,1,4,12,13] else [],seqs:=fun x=>if x=1 then [15] else if x=3 then [13] else if x=5 then [13] else if x=8 then [15] else if x=10 then [15] else if x=13 then [13] else if x=15 then [13] else if x=18 then [15] else if x=21 then [15] else []}
def awK:Row:={keep:=fun x=>if x=0 then [0,2,3,4,10] else [],seqs:=fun x=>if x=3 then [19] else if x=5 then [13] else if x=6 then [23] else []}
def awJ:Row:={seqs:=fun x=>if x=1 then [9] else if x=2 then [9] else if x=3 then [9] else []}
def awI:Row:={seqs:=fun x=>if x=1 then [9] else []}
def rows:Nat→Row
 |3=>w3
 |5=>w5
 |6=>w6
 |7=>w7
 |8=>w8
 |9=>w9
 |10=>w10
 |15=>w15
 |16=>w16
 |22=>w22
 |25=>w25
 |26=>w26
 |27=>w27
 |29=>w29
 |30=>U'
 |31=>w31
 |32=>w32
 |33=>w33
 |34=>w34
 |35=>RK
 |36=>Gu
 |37=>YT
 |39=>w39
 |41=>w41
 |42=>YS
 |43=>YR
 |44=>YQ
 |45=>YP
 |46=>YO
 |47=>YN
 |48=>YM
 |49=>YL
 |52=>YK
 |53=>YJ
 |55=>YI
 |56=>YH
 |58=>YG
 |59=>YF
 |60=>YE
 |61=>YD
 |64=>YC
 |65=>YB
 |66=>YA
 |67=>U_
 |68=>U9
 |70=>Yz
 |71=>Yy
 |72=>w72
 |73=>Yx
 |74=>Yw
 |77=>Yv
 |78=>Yu
 |79=>Yt
 |84=>Zj
 |86=>Ys
 |87=>Yr
 |88=>Yq
 |89=>Yp
 |90=>Yo
 |91=>Yn
 |92=>Ym
 |93=>Yl
 |94=>Yk
 |96=>Yj
 |97=>Yi
 |98=>Zi
 |99=>Yh
 |100=>aai
 |103=>aah
 |105=>aag
 |106=>aaf
 |108=>aae
 |109=>aad
 |110=>aac
 |111=>aab
 |112=>aaa
 |115=>Z'
 |116=>Z_
 |118=>Z9
 |121=>NQ
 |122=>NP
 |123=>NO
 |125=>NN
 |126=>NM
 |128=>Z8
 |132=>Z7
 |134=>Z6
 |135=>n9
 |136=>Z5
 |139=>Z4
 |143=>NL
 |147=>Z3
 |150=>Z2
 |153=>Z1
 |157=>Z0
 |159=>ZZ
 |160=>ZY
 |161=>ZX
 |162=>ZW
 |163=>Bl
 |166=>ZV
 |170=>ZU
 |171=>ZT
 |172=>GH
 |173=>ZS
 |175=>ZR
 |176=>ZQ
 |177=>ZP
 |178=>ZO
 |180=>qz
 |182=>ZN
 |184=>NK
 |186=>ZM
 |189=>ZL
 |190=>NJ
 |191=>aw4
 |196=>aw3
 |200=>ZK
 |201=>aw2
 |202=>ic
 |208=>ZJ
 |210=>aw1
 |218=>ZI
 |219=>ZH
 |220=>ZG
 |221=>ZF
 |223=>ZE
 |224=>ZD
 |225=>ZC
 |226=>ZB
 |227=>aw0
 |228=>ZA
 |229=>awZ
 |230=>Zz
 |231=>Zy
 |232=>Zx
 |233=>Zw
 |235=>Zv
 |237=>Zu
 |238=>Zt
 |239=>awY
 |240=>awX
 |241=>awW
 |244=>qy
 |245=>Zs
 |248=>Zr
 |249=>Zp
 |250=>Zo
 |252=>awV
 |257=>NI
 |259=>Zn
 |260=>Zm
 |261=>awU
 |262=>Zl
 |263=>awT
 |266=>Zk
 |268=>awS
 |271=>awR
 |272=>awQ
 |273=>awP
 |275=>awO
 |276=>awN
 |277=>awM
 |278=>awL
 |297=>awK
 |299=>awJ
 |302=>awI
 |_=>{}
def lR:List PV:=[.str ⟨#[]⟩,.int .i64 0,.int .i64 0,.str ⟨#[]⟩,.int .i64 0,.int .i64 0,.str ⟨#[]⟩,.int .i64 0,.int .i64 0,.str ⟨#[110,111,116]⟩,.int .i64 1,.int .i64 1,.str ⟨#[110,101,103]⟩,.int .i64 1,.int .i64 1,.str ⟨#[97,100,100]⟩,.int .i64 2,.int .i64 1,.str ⟨#[115,117,98]⟩,.int .i64 2,.int .i64 1,.str ⟨#[109,117,108]⟩,.int .i64 2,.int .i64 1,.str ⟨#[97,110,100]⟩,.int .i64 2,.int .i64 1,.str ⟨#[111,114]⟩,.int .i64 2,.int .i64 1,.str ⟨#[120,111,114]⟩,.int .i64 2,.int .i64 1,.str ⟨#[115,104,108]⟩,.int .i64 2,.int .i64 1,.str ⟨#[115,104,114]⟩,.int .i64 2,.int .i64 1,.str ⟨#[115,97,114]⟩,.int .i64 2,.int .i64 1,.str ⟨#[117,100,105,118]⟩,.int .i64 2,.int .i64 1,.str ⟨#[117,114,101,109]⟩,.int .i64 2,.int .i64 1,.str ⟨#[101,113]⟩,.int .i64 2,.int .i64 2,.str ⟨#[117,108,116]⟩,.int .i64 2,.int .i64 2,.str ⟨#[115,108,116]⟩,.int .i64 2,.int .i64 2,.str ⟨#[105,116,101]⟩,.int .i64 3,.int .i64 3,.str ⟨#[99,111,110,99,97,116]⟩,.int .i64 2,.int .i64 4,.str ⟨#[101,120,116,114,97,99,116]⟩,.int .i64 1,.int .i64 5,.str ⟨#[122,101,120,116]⟩,.int .i64 1,.int .i64 6,.str ⟨#[115,101,120,116]⟩,.int .i64 1,.int .i64 6,.str ⟨#[108,111,97,100]⟩,.int .i64 1,.int .i64 7]
noncomputable def fs(f:Nat):Option Func:=if 3≤f∧f<303 then Tryz.prog.funcs[f]? else none
noncomputable def T:cX where
 info:=SQ Tryz.prog
 keep:=fun f=>(rows f).keep
 own:=fun f=>(rows f).own
 muts:=fun f=>[74].contains f
 seqs:=fun f=>(rows f).seqs
 late:=fun f=>(rows f).late
 fresh:=fun _=>false
 gives:=fun f=>[8,22,78,169,225,226,227,252].contains f
 loops:=pM fs
 glob:=fun g=>if g=0 then some lR else none
 grow:=fun f=>(rows f).grow
 split:=fun f=>[22].contains f
theorem azH:T.Ok Tryz.prog:=aao fun _ _ h=>h
noncomputable def R(n:Nat):ei:=run T fs (fun _ _ _=>none) n
noncomputable def Y(n:Nat):nN:=(sys T fs (fun _ _ _=>none) n).2
def I2:TI:=⟨.int .i64,1,8,[.int .i64 0]⟩
def I3:TI:=⟨.int .i64,1,8,[.int .i64 0]⟩
def I4:TI:=⟨.bool,1,1,[.bool false]⟩
def I5:TI:=⟨.int .u8,1,1,[.int .u8 0]⟩
def I9:TI:=⟨.string,1,16,[.str ⟨#[]⟩]⟩
def J0:TI:=⟨.slice 95,1,24,[.nils]⟩
def JZ:TI:=⟨.slice 52,1,24,[.nils]⟩
def F_:TI:=⟨.slice 120,1,24,[.nils]⟩
def F9:TI:=⟨.slice 57,1,24,[.nils]⟩
def IL:TypeDesc:=.struct #[⟨"Name",9,0,false, "", "",0⟩,⟨"Word",3,1,false, "", "",16⟩,⟨"Address",3,2,false, "", "",24⟩,⟨"Regs",22,3,false, "", "",32⟩,⟨"Banks",23,4,false, "", "",56⟩,⟨"Units",24,5,false, "", "",80⟩,⟨"Instrs",25,6,false, "", "",104⟩]
def RR:TI:=⟨IL,7,128,[.str ⟨#[]⟩,.int .i64 0,.int .i64 0,.nils,.nils,.nils,.nils]⟩
def RP:TI:=⟨.slice 3,1,24,[.nils]⟩
def F8:TI:=⟨.slice 70,1,24,[.nils]⟩
def Su:TypeDesc:=.struct #[⟨"Instr",3,0,false, "", "",0⟩,⟨"Args",28,1,false, "", "",8⟩]
def Ga:TI:=⟨Su,2,32,[.int .i64 0,.nils]⟩
def zN:TypeDesc:=.struct #[⟨"Stack",3,0,false, "", "",0⟩,⟨"Link",3,1,false, "", "",8⟩,⟨"Bank",3,2,false, "", "",16⟩,⟨"Args",28,3,false, "", "",24⟩,⟨"Result",3,4,false, "", "",48⟩,⟨"Kept",28,5,false, "", "",56⟩,⟨"Scratch",3,6,false, "", "",80⟩,⟨"Moves",29,7,false, "", "",88⟩,⟨"Adjust",31,8,false, "", "",112⟩,⟨"Call",31,10,false, "", "",144⟩,⟨"Leave",31,12,false, "", "",176⟩,⟨"Nop",31,14,false, "", "",208⟩,⟨"Align",3,16,false, "", "",240⟩]
def Sp:TI:=⟨zN,17,248,[.int .i64 0,.int .i64 0,.int .i64 0,.nils,.int .i64 0,.nils,.int .i64 0,.nils,.int .i64 0,.nils,.int .i64 0,.nils,.int .i64 0,.nils,.int .i64 0,.nils,.int .i64 0]⟩
def MP:TI:=⟨.int .i64,1,8,[.int .i64 0]⟩
def Yd:TypeDesc:=.struct #[⟨"Instr",3,0,false, "", "",0⟩,⟨"Args",28,1,false, "", "",8⟩]
def Y':TI:=⟨Yd,2,32,[.int .i64 0,.nils]⟩
def Ss:TypeDesc:=.struct #[⟨"Name",9,0,false, "", "",0⟩,⟨"Regs",28,1,false, "", "",16⟩]
def VI:TI:=⟨Ss,2,40,[.str ⟨#[]⟩,.nils]⟩
def So:TI:=⟨.int .u64,1,8,[.int .u64 0]⟩
def F7:TI:=⟨.slice 60,1,24,[.nils]⟩
def F6:TI:=⟨.slice 66,1,24,[.nils]⟩
def Gn:TypeDesc:=.struct #[⟨"Name",9,0,false, "", "",0⟩,⟨"Mask",53,1,false, "", "",16⟩,⟨"Match",53,2,false, "", "",24⟩,⟨"Operands",54,3,false, "", "",32⟩,⟨"Effects",55,4,false, "", "",56⟩,⟨"Unit",3,5,false, "", "",80⟩,⟨"Busy",3,6,false, "", "",88⟩,⟨"Latency",3,7,false, "", "",96⟩,⟨"Slots",3,8,false, "", "",104⟩]
def RF:TI:=⟨Gn,9,112,[.str ⟨#[]⟩,.int .u64 0,.int .u64 0,.nils,.nils,.int .i64 0,.int .i64 0,.int .i64 0,.int .i64 0]⟩
def F5:TI:=⟨.slice 159,1,24,[.nils]⟩
def J7:TypeDesc:=.struct #[⟨"Name",9,0,false, "", "",0⟩,⟨"Kind",5,1,false, "", "",16⟩,⟨"Bank",3,2,false, "", "",24⟩,⟨"Scale",3,3,false, "", "",32⟩,⟨"Pieces",58,4,false, "", "",40⟩,⟨"Tied",3,5,false, "", "",64⟩]
def VG:TI:=⟨J7,6,72,[.str ⟨#[]⟩,.int .u8 0,.int .i64 0,.int .i64 0,.nils,.int .i64 0]⟩
def F4:TI:=⟨.slice 64,1,24,[.nils]⟩
def J6:TypeDesc:=.struct #[⟨"Kind",5,0,false, "", "",0⟩,⟨"Width",3,1,false, "", "",8⟩,⟨"Bits",53,2,false, "", "",16⟩,⟨"Name",9,3,false, "", "",24⟩,⟨"Low",3,4,false, "", "",40⟩,⟨"Sub",62,5,false, "", "",48⟩]
def Nu:TI:=⟨J6,6,72,[.int .u8 0,.int .i64 0,.int .u64 0,.str ⟨#[]⟩,.int .i64 0,.nils]⟩
def U6:TypeDesc:=.struct #[⟨"Kind",5,0,false, "", "",0⟩,⟨"Operand",3,1,false, "", "",8⟩,⟨"Reg",3,2,false, "", "",16⟩,⟨"Addr",64,3,false, "", "",24⟩,⟨"Value",64,9,false, "", "",96⟩,⟨"Cond",64,15,false, "", "",168⟩]
def Sn:TI:=⟨U6,21,240,[.int .u8 0,.int .i64 0,.int .i64 0,.int .u8 0,.int .i64 0,.int .u64 0,.str ⟨#[]⟩,.int .i64 0,.nils,.int .u8 0,.int .i64 0,.int .u64 0,.str ⟨#[]⟩,.int .i64 0,.nils,.int .u8 0,.int .i64 0,.int .u64 0,.str ⟨#[]⟩,.int .i64 0,.nils]⟩
def Nw:TypeDesc:=.struct #[⟨"Bank",3,0,false, "", "",0⟩,⟨"Copy",31,1,false, "", "",8⟩,⟨"Load",31,3,false, "", "",40⟩,⟨"Store",31,5,false, "", "",72⟩]
def VF:TI:=⟨Nw,7,104,[.int .i64 0,.int .i64 0,.nils,.int .i64 0,.nils,.int .i64 0,.nils]⟩
def Sr:TypeDesc:=.struct #[⟨"m",27,0,false, "", "retarget/calling",0⟩,⟨"c",33,7,false, "", "retarget/calling",128⟩]
def VE:TI:=⟨Sr,24,376,[.str ⟨#[]⟩,.int .i64 0,.int .i64 0,.nils,.nils,.nils,.nils,.int .i64 0,.int .i64 0,.int .i64 0,.nils,.int .i64 0,.nils,.int .i64 0,.nils,.int .i64 0,.nils,.int .i64 0,.nils,.int .i64 0,.nils,.int .i64 0,.nils,.int .i64 0]⟩
def F3:TI:=⟨.func #[3] #[4] false,1,8,[.nilf]⟩
def MM:TI:=⟨.slice 31,1,24,[.nils]⟩
def Nv:TypeDesc:=.struct #[⟨"Name",9,0,false, "", "",0⟩,⟨"Width",3,1,false, "", "",16⟩,⟨"Of",3,2,false, "", "",24⟩,⟨"Low",3,3,false, "", "",32⟩]
def VD:TI:=⟨Nv,4,40,[.str ⟨#[]⟩,.int .i64 0,.int .i64 0,.int .i64 0]⟩
def zS:TypeDesc:=.struct #[⟨"Machine",27,0,true, "", "",0⟩,⟨"ok",4,7,false, "", "retarget/machine",128⟩]
def Gk:TI:=⟨zS,8,136,[.str ⟨#[]⟩,.int .i64 0,.int .i64 0,.nils,.nils,.nils,.nils,.bool false]⟩
def IK:TI:=⟨.slice 9,1,24,[.nils]⟩
def Dd:TypeDesc:=.struct #[⟨"used",105,0,false, "", "retarget/machine",0⟩]
def Gj:TI:=⟨Dd,1,24,[.nils]⟩
def Ni:TI:=⟨.slice 4,1,24,[.nils]⟩
def zR:TypeDesc:=.struct #[⟨"Name",9,0,false, "", "",0⟩,⟨"Count",3,1,false, "", "",16⟩]
def C9:TI:=⟨zR,2,24,[.str ⟨#[]⟩,.int .i64 0]⟩
def Nf:TI:=⟨.map 9 3,1,8,[.nilm]⟩
def Nc:TI:=⟨.map 5 3,1,8,[.nilm]⟩
def uT:TypeDesc:=.struct #[⟨"pair",74,0,true, "", "retarget/calling",0⟩,⟨"args",28,24,false, "", "retarget/calling",376⟩,⟨"instr",57,25,false, "", "retarget/calling",400⟩,⟨"main",66,34,false, "", "retarget/calling",512⟩,⟨"one",4,55,false, "", "retarget/calling",752⟩]
def Gh:TI:=⟨uT,56,760,[.str ⟨#[]⟩,.int .i64 0,.int .i64 0,.nils,.nils,.nils,.nils,.int .i64 0,.int .i64 0,.int .i64 0,.nils,.int .i64 0,.nils,.int .i64 0,.nils,.int .i64 0,.nils,.int .i64 0,.nils,.int .i64 0,.nils,.int .i64 0,.nils,.int .i64 0,.nils,.str ⟨#[]⟩,.int .u64 0,.int .u64 0,.nils,.nils,.int .i64 0,.int .i64 0,.int .i64 0,.int .i64 0,.int .u8 0,.int .i64 0,.int .i64 0,.int .u8 0,.int .i64 0,.int .u64 0,.str ⟨#[]⟩,.int .i64 0,.nils,.int .u8 0,.int .i64 0,.int .u64 0,.str ⟨#[]⟩,.int .i64 0,.nils,.int .u8 0,.int .i64 0,.int .u64 0,.str ⟨#[]⟩,.int .i64 0,.nils,.bool false]⟩
def vX:TypeDesc:=.struct #[⟨"m",27,0,false, "", "retarget/retargetref32",0⟩,⟨"c",33,7,false, "", "retarget/retargetref32",128⟩,⟨"t",31,24,false, "", "retarget/retargetref32",376⟩,⟨"s",57,26,false, "", "retarget/retargetref32",408⟩]
def Gg:TI:=⟨vX,35,520,[.str ⟨#[]⟩,.int .i64 0,.int .i64 0,.nils,.nils,.nils,.nils,.int .i64 0,.int .i64 0,.int .i64 0,.nils,.int .i64 0,.nils,.int .i64 0,.nils,.int .i64 0,.nils,.int .i64 0,.nils,.int .i64 0,.nils,.int .i64 0,.nils,.int .i64 0,.int .i64 0,.nils,.str ⟨#[]⟩,.int .u64 0,.int .u64 0,.nils,.nils,.int .i64 0,.int .i64 0,.int .i64 0,.int .i64 0]⟩
def zQ:TypeDesc:=.struct #[⟨"At",3,0,false, "", "",0⟩,⟨"Len",3,1,false, "", "",8⟩]
def C8:TI:=⟨zQ,2,16,[.int .i64 0,.int .i64 0]⟩
def M8:TI:=⟨.map 9 79,1,8,[.nilm]⟩
def M6:TI:=⟨.func #[64] #[64] false,1,8,[.nilf]⟩
def M5:TI:=⟨.int .u64,1,8,[.int .u64 0]⟩
def M3:TI:=⟨.slice 197,1,24,[.nils]⟩
def zP:TypeDesc:=.struct #[⟨"Name",9,0,false, "", "",0⟩,⟨"Width",3,1,false, "", "",16⟩,⟨"Bits",53,2,false, "", "",24⟩]
def C7:TI:=⟨zP,3,32,[.str ⟨#[]⟩,.int .i64 0,.int .u64 0]⟩
def zO:TypeDesc:=.struct #[⟨"word",9,0,false, "", "retarget/term",0⟩,⟨"parts",3,1,false, "", "retarget/term",16⟩,⟨"how",3,2,false, "", "retarget/term",24⟩]
def Gf:TI:=⟨zO,3,32,[.str ⟨#[]⟩,.int .i64 0,.int .i64 0]⟩
def MW:TI:=⟨.slice 213,1,24,[.nils]⟩
def IJ:TI:=⟨.func #[64] #[64,4] false,1,8,[.nilf]⟩
def MS:TI:=⟨.slice 257,1,24,[.nils]⟩
def MR:TI:=⟨.slice 53,1,24,[.nils]⟩
def Ge:TI:=⟨.array 25 204,75,800,[.str ⟨#[]⟩,.int .i64 0,.int .i64 0,.str ⟨#[]⟩,.int .i64 0,.int .i64 0,.str ⟨#[]⟩,.int .i64 0,.int .i64 0,.str ⟨#[]⟩,.int .i64 0,.int .i64 0,.str ⟨#[]⟩,.int .i64 0,.int .i64 0,.str ⟨#[]⟩,.int .i64 0,.int .i64 0,.str ⟨#[]⟩,.int .i64 0,.int .i64 0,.str ⟨#[]⟩,.int .i64 0,.int .i64 0,.str ⟨#[]⟩,.int .i64 0,.int .i64 0,.str ⟨#[]⟩,.int .i64 0,.int .i64 0,.str ⟨#[]⟩,.int .i64 0,.int .i64 0,.str ⟨#[]⟩,.int .i64 0,.int .i64 0,.str ⟨#[]⟩,.int .i64 0,.int .i64 0,.str ⟨#[]⟩,.int .i64 0,.int .i64 0,.str ⟨#[]⟩,.int .i64 0,.int .i64 0,.str ⟨#[]⟩,.int .i64 0,.int .i64 0,.str ⟨#[]⟩,.int .i64 0,.int .i64 0,.str ⟨#[]⟩,.int .i64 0,.int .i64 0,.str ⟨#[]⟩,.int .i64 0,.int .i64 0,.str ⟨#[]⟩,.int .i64 0,.int .i64 0,.str ⟨#[]⟩,.int .i64 0,.int .i64 0,.str ⟨#[]⟩,.int .i64 0,.int .i64 0,.str ⟨#[]⟩,.int .i64 0,.int .i64 0,.str ⟨#[]⟩,.int .i64 0,.int .i64 0,.str ⟨#[]⟩,.int .i64 0,.int .i64 0]⟩
def MO:TI:=⟨.map 5 211,1,8,[.nilm]⟩
def MN:TI:=⟨.map 9 53,1,8,[.nilm]⟩
def IM:TypeDesc:=.struct #[⟨"At",53,0,false, "", "",0⟩,⟨"Byte",5,1,false, "", "",8⟩]
def Gd:TI:=⟨IM,2,16,[.int .u64 0,.int .u8 0]⟩
def Gc:TI:=⟨.array 3 53,3,24,[.int .u64 0,.int .u64 0,.int .u64 0]⟩
def ML:TI:=⟨.func #[3,53,53] #[53] false,1,8,[.nilf]⟩
def MK:TI:=⟨.int .i64,1,8,[.int .i64 0]⟩
def MJ:TI:=⟨.int .u32,1,4,[.int .u32 0]⟩
def Gb:TI:=⟨.array 19 273,19,152,[.nilf,.nilf,.nilf,.nilf,.nilf,.nilf,.nilf,.nilf,.nilf,.nilf,.nilf,.nilf,.nilf,.nilf,.nilf,.nilf,.nilf,.nilf,.nilf]⟩
def MI:TI:=⟨.int .u64,1,8,[.int .u64 0]⟩
@[simp] theorem J2:T.info 2=some I2∧I2.desc=.int .i64∧I2.size=1∧I2.bytes=8∧I2.zero=[.int .i64 0]∧descOf T 2=some (.int .i64):=⟨by kernel_rfl,rfl,rfl,rfl,rfl,by kernel_rfl⟩
@[simp] theorem J3:T.info 3=some I3∧I3.desc=.int .i64∧I3.size=1∧I3.bytes=8∧I3.zero=[.int .i64 0]∧descOf T 3=some (.int .i64):=⟨by kernel_rfl,rfl,rfl,rfl,rfl,by kernel_rfl⟩
@[simp] theorem J4:T.info 4=some I4∧I4.desc=.bool∧I4.size=1∧I4.bytes=1∧I4.zero=[.bool false]:=⟨by kernel_rfl,rfl,rfl,rfl,rfl⟩
@[simp] theorem J5:T.info 5=some I5∧I5.desc=.int .u8∧I5.size=1∧I5.bytes=1∧I5.zero=[.int .u8 0]∧descOf T 5=some (.int .u8):=⟨by kernel_rfl,rfl,rfl,rfl,rfl,by kernel_rfl⟩
@[simp] theorem J9:T.info 9=some I9∧I9.desc=.string∧I9.size=1∧I9.bytes=16∧I9.zero=[.str ⟨#[]⟩]∧descOf T 9=some .string:=⟨by kernel_rfl,rfl,rfl,rfl,rfl,by kernel_rfl⟩
@[simp] theorem J22:T.info 22=some J0∧J0.desc=.slice 95∧J0.size=1∧J0.bytes=24∧J0.zero=[.nils]∧descOf T 22=some (.slice 95)∧elemOf T 22=some VD:=⟨by kernel_rfl,rfl,rfl,rfl,rfl,by kernel_rfl,by kernel_rfl⟩
@[simp] theorem J23:T.info 23=some JZ∧JZ.desc=.slice 52∧JZ.size=1∧JZ.bytes=24∧JZ.zero=[.nils]∧descOf T 23=some (.slice 52)∧elemOf T 23=some VI:=⟨by kernel_rfl,rfl,rfl,rfl,rfl,by kernel_rfl,by kernel_rfl⟩
@[simp] theorem J24:T.info 24=some F_∧F_.desc=.slice 120∧F_.size=1∧F_.bytes=24∧F_.zero=[.nils]∧descOf T 24=some (.slice 120)∧elemOf T 24=some C9:=⟨by kernel_rfl,rfl,rfl,rfl,rfl,by kernel_rfl,by kernel_rfl⟩
@[simp] theorem J25:T.info 25=some F9∧F9.desc=.slice 57∧F9.size=1∧F9.bytes=24∧F9.zero=[.nils]∧descOf T 25=some (.slice 57)∧elemOf T 25=some RF:=⟨by kernel_rfl,rfl,rfl,rfl,rfl,by kernel_rfl,by kernel_rfl⟩
@[simp] theorem J27:T.info 27=some RR∧RR.desc=IL∧RR.size=7∧RR.bytes=128∧RR.zero=[.str ⟨#[]⟩,.int .i64 0,.int .i64 0,.nils,.nils,.nils,.nils]∧descOf T 27=some IL∧aO IL=true∧abd T 27 0=some (0,I9)∧abd T 27 1=some (1,I3)∧abd T 27 2=some (2,I3)∧abd T 27 3=some (3,J0)∧abd T 27 4=some (4,JZ)∧abd T 27 5=some (5,F_)∧abd T 27 6=some (6,F9):=⟨by kernel_rfl,rfl,rfl,rfl,rfl,by kernel_rfl,rfl,by kernel_rfl,by kernel_rfl,by kernel_rfl,by kernel_rfl,by kernel_rfl,by kernel_rfl,by kernel_rfl⟩
@[simp] theorem J28:T.info 28=some RP∧RP.desc=.slice 3∧RP.size=1∧RP.bytes=24∧RP.zero=[.nils]∧descOf T 28=some (.slice 3)∧elemOf T 28=some I3:=⟨by kernel_rfl,rfl,rfl,rfl,rfl,by kernel_rfl,by kernel_rfl⟩
@[simp] theorem J29:T.info 29=some F8∧F8.desc=.slice 70∧F8.size=1∧F8.bytes=24∧F8.zero=[.nils]∧descOf T 29=some (.slice 70)∧elemOf T 29=some VF:=⟨by kernel_rfl,rfl,rfl,rfl,rfl,by kernel_rfl,by kernel_rfl⟩
@[simp] theorem J31:T.info 31=some Ga∧Ga.desc=Su∧Ga.size=2∧Ga.bytes=32∧Ga.zero=[.int .i64 0,.nils]∧descOf T 31=some Su∧aO Su=true∧abd T 31 0=some (0,I3)∧abd T 31 1=some (1,RP):=⟨by kernel_rfl,rfl,rfl,rfl,rfl,by kernel_rfl,rfl,by kernel_rfl,by kernel_rfl⟩
@[simp] theorem J33:T.info 33=some Sp∧Sp.desc=zN∧Sp.size=17∧Sp.bytes=248∧Sp.zero=[.int .i64 0,.int .i64 0,.int .i64 0,.nils,.int .i64 0,.nils,.int .i64 0,.nils,.int .i64 0,.nils,.int .i64 0,.nils,.int .i64 0,.nils,.int .i64 0,.nils,.int .i64 0]∧descOf T 33=some zN∧aO zN=true∧abd T 33 0=some (0,I3)∧abd T 33 1=some (1,I3)∧abd T 33 2=some (2,I3)∧abd T 33 3=some (3,RP)∧abd T 33 4=some (4,I3)∧abd T 33 5=some (5,RP)∧abd T 33 6=some (6,I3)∧abd T 33 7=some (7,F8)∧abd T 33 8=some (8,Ga)∧abd T 33 9=some (10,Ga)∧abd T 33 10=some (12,Ga)∧abd T 33 11=some (14,Ga)∧abd T 33 12=some (16,I3):=⟨by kernel_rfl,rfl,rfl,rfl,rfl,by kernel_rfl,rfl,by kernel_rfl,by kernel_rfl,by kernel_rfl,by kernel_rfl,by kernel_rfl,by kernel_rfl,by kernel_rfl,by kernel_rfl,by kernel_rfl,by kernel_rfl,by kernel_rfl,by kernel_rfl,by kernel_rfl⟩
@[simp] theorem J37:T.info 37=some MP∧MP.desc=.int .i64∧MP.size=1∧MP.bytes=8∧MP.zero=[.int .i64 0]∧descOf T 37=some (.int .i64):=⟨by kernel_rfl,rfl,rfl,rfl,rfl,by kernel_rfl⟩
@[simp] theorem J44:T.info 44=some Y'∧Y'.desc=Yd∧Y'.size=2∧Y'.bytes=32∧Y'.zero=[.int .i64 0,.nils]∧descOf T 44=some Yd∧aO Yd=true∧abd T 44 0=some (0,I3)∧abd T 44 1=some (1,RP):=⟨by kernel_rfl,rfl,rfl,rfl,rfl,by kernel_rfl,rfl,by kernel_rfl,by kernel_rfl⟩
@[simp] theorem J52:T.info 52=some VI∧VI.desc=Ss∧VI.size=2∧VI.bytes=40∧VI.zero=[.str ⟨#[]⟩,.nils]∧descOf T 52=some Ss∧aO Ss=true∧abd T 52 0=some (0,I9)∧abd T 52 1=some (1,RP):=⟨by kernel_rfl,rfl,rfl,rfl,rfl,by kernel_rfl,rfl,by kernel_rfl,by kernel_rfl⟩
@[simp] theorem J53:T.info 53=some So∧So.desc=.int .u64∧So.size=1∧So.bytes=8∧So.zero=[.int .u64 0]∧descOf T 53=some (.int .u64):=⟨by kernel_rfl,rfl,rfl,rfl,rfl,by kernel_rfl⟩
@[simp] theorem J54:T.info 54=some F7∧F7.desc=.slice 60∧F7.size=1∧F7.bytes=24∧F7.zero=[.nils]∧descOf T 54=some (.slice 60)∧elemOf T 54=some VG:=⟨by kernel_rfl,rfl,rfl,rfl,rfl,by kernel_rfl,by kernel_rfl⟩
@[simp] theorem J55:T.info 55=some F6∧F6.desc=.slice 66∧F6.size=1∧F6.bytes=24∧F6.zero=[.nils]∧descOf T 55=some (.slice 66)∧elemOf T 55=some Sn:=⟨by kernel_rfl,rfl,rfl,rfl,rfl,by kernel_rfl,by kernel_rfl⟩
@[simp] theorem J57:T.info 57=some RF∧RF.desc=Gn∧RF.size=9∧RF.bytes=112∧RF.zero=[.str ⟨#[]⟩,.int .u64 0,.int .u64 0,.nils,.nils,.int .i64 0,.int .i64 0,.int .i64 0,.int .i64 0]∧descOf T 57=some Gn∧aO Gn=true∧abd T 57 0=some (0,I9)∧abd T 57 1=some (1,So)∧abd T 57 2=some (2,So)∧abd T 57 3=some (3,F7)∧abd T 57 4=some (4,F6)∧abd T 57 5=some (5,I3)∧abd T 57 6=some (6,I3)∧abd T 57 7=some (7,I3)∧abd T 57 8=some (8,I3):=⟨by kernel_rfl,rfl,rfl,rfl,rfl,by kernel_rfl,rfl,by kernel_rfl,by kernel_rfl,by kernel_rfl,by kernel_rfl,by kernel_rfl,by kernel_rfl,by kernel_rfl,by kernel_rfl,by kernel_rfl⟩
@[simp] theorem J58:T.info 58=some F5∧F5.desc=.slice 159∧F5.size=1∧F5.bytes=24∧F5.zero=[.nils]∧descOf T 58=some (.slice 159)∧elemOf T 58=some C8:=⟨by kernel_rfl,rfl,rfl,rfl,rfl,by kernel_rfl,by kernel_rfl⟩
@[simp] theorem J60:T.info 60=some VG∧VG.desc=J7∧VG.size=6∧VG.bytes=72∧VG.zero=[.str ⟨#[]⟩,.int .u8 0,.int .i64 0,.int .i64 0,.nils,.int .i64 0]∧descOf T 60=some J7∧aO J7=true∧abd T 60 0=some (0,I9)∧abd T 60 1=some (1,I5)∧abd T 60 2=some (2,I3)∧abd T 60 3=some (3,I3)∧abd T 60 4=some (4,F5)∧abd T 60 5=some (5,I3):=⟨by kernel_rfl,rfl,rfl,rfl,rfl,by kernel_rfl,rfl,by kernel_rfl,by kernel_rfl,by kernel_rfl,by kernel_rfl,by kernel_rfl,by kernel_rfl⟩
@[simp] theorem J62:T.info 62=some F4∧F4.desc=.slice 64∧F4.size=1∧F4.bytes=24∧F4.zero=[.nils]∧descOf T 62=some (.slice 64)∧elemOf T 62=some Nu:=⟨by kernel_rfl,rfl,rfl,rfl,rfl,by kernel_rfl,by kernel_rfl⟩
@[simp] theorem J64:T.info 64=some Nu∧Nu.desc=J6∧Nu.size=6∧Nu.bytes=72∧Nu.zero=[.int .u8 0,.int .i64 0,.int .u64 0,.str ⟨#[]⟩,.int .i64 0,.nils]∧descOf T 64=some J6∧aO J6=true∧abd T 64 0=some (0,I5)∧abd T 64 1=some (1,I3)∧abd T 64 2=some (2,So)∧abd T 64 3=some (3,I9)∧abd T 64 4=some (4,I3)∧abd T 64 5=some (5,F4):=⟨by kernel_rfl,rfl,rfl,rfl,rfl,by kernel_rfl,rfl,by kernel_rfl,by kernel_rfl,by kernel_rfl,by kernel_rfl,by kernel_rfl,by kernel_rfl⟩
@[simp] theorem J66:T.info 66=some Sn∧Sn.desc=U6∧Sn.size=21∧Sn.bytes=240∧Sn.zero=[.int .u8 0,.int .i64 0,.int .i64 0,.int .u8 0,.int .i64 0,.int .u64 0,.str ⟨#[]⟩,.int .i64 0,.nils,.int .u8 0,.int .i64 0,.int .u64 0,.str ⟨#[]⟩,.int .i64 0,.nils,.int .u8 0,.int .i64 0,.int .u64 0,.str ⟨#[]⟩,.int .i64 0,.nils]∧descOf T 66=some U6∧aO U6=true∧abd T 66 0=some (0,I5)∧abd T 66 1=some (1,I3)∧abd T 66 2=some (2,I3)∧abd T 66 3=some (3,Nu)∧abd T 66 4=some (9,Nu)∧abd T 66 5=some (15,Nu):=⟨by kernel_rfl,rfl,rfl,rfl,rfl,by kernel_rfl,rfl,by kernel_rfl,by kernel_rfl,by kernel_rfl,by kernel_rfl,by kernel_rfl,by kernel_rfl⟩
@[simp] theorem J70:T.info 70=some VF∧VF.desc=Nw∧VF.size=7∧VF.bytes=104∧VF.zero=[.int .i64 0,.int .i64 0,.nils,.int .i64 0,.nils,.int .i64 0,.nils]∧descOf T 70=some Nw∧aO Nw=true∧abd T 70 0=some (0,I3)∧abd T 70 1=some (1,Ga)∧abd T 70 2=some (3,Ga)∧abd T 70 3=some (5,Ga):=⟨by kernel_rfl,rfl,rfl,rfl,rfl,by kernel_rfl,rfl,by kernel_rfl,by kernel_rfl,by kernel_rfl,by kernel_rfl⟩
@[simp] theorem J74:T.info 74=some VE∧VE.desc=Sr∧VE.size=24∧VE.bytes=376∧VE.zero=[.str ⟨#[]⟩,.int .i64 0,.int .i64 0,.nils,.nils,.nils,.nils,.int .i64 0,.int .i64 0,.int .i64 0,.nils,.int .i64 0,.nils,.int .i64 0,.nils,.int .i64 0,.nils,.int .i64 0,.nils,.int .i64 0,.nils,.int .i64 0,.nils,.int .i64 0]∧descOf T 74=some Sr∧aO Sr=true∧abd T 74 0=some (0,RR)∧abd T 74 1=some (7,Sp):=⟨by kernel_rfl,rfl,rfl,rfl,rfl,by kernel_rfl,rfl,by kernel_rfl,by kernel_rfl⟩
@[simp] theorem J79:T.info 79=some F3∧F3.desc=.func #[3] #[4] false∧F3.size=1∧F3.bytes=8∧F3.zero=[.nilf]:=⟨by kernel_rfl,rfl,rfl,rfl,rfl⟩
@[simp] theorem J90:T.info 90=some MM∧MM.desc=.slice 31∧MM.size=1∧MM.bytes=24∧MM.zero=[.nils]∧descOf T 90=some (.slice 31)∧elemOf T 90=some Ga:=⟨by kernel_rfl,rfl,rfl,rfl,rfl,by kernel_rfl,by kernel_rfl⟩
@[simp] theorem J95:T.info 95=some VD∧VD.desc=Nv∧VD.size=4∧VD.bytes=40∧VD.zero=[.str ⟨#[]⟩,.int .i64 0,.int .i64 0,.int .i64 0]∧descOf T 95=some Nv∧aO Nv=true∧abd T 95 0=some (0,I9)∧abd T 95 1=some (1,I3)∧abd T 95 2=some (2,I3)∧abd T 95 3=some (3,I3):=⟨by kernel_rfl,rfl,rfl,rfl,rfl,by kernel_rfl,rfl,by kernel_rfl,by kernel_rfl,by kernel_rfl,by kernel_rfl⟩
@[simp] theorem Yc:T.info 102=some Gk∧Gk.desc=zS∧Gk.size=8∧Gk.bytes=136∧Gk.zero=[.str ⟨#[]⟩,.int .i64 0,.int .i64 0,.nils,.nils,.nils,.nils,.bool false]∧descOf T 102=some zS∧aO zS=true∧abd T 102 0=some (0,RR)∧abd T 102 1=some (7,I4):=⟨by kernel_rfl,rfl,rfl,rfl,rfl,by kernel_rfl,rfl,by kernel_rfl,by kernel_rfl⟩
@[simp] theorem akD:T.info 105=some IK∧IK.desc=.slice 9∧IK.size=1∧IK.bytes=24∧IK.zero=[.nils]∧descOf T 105=some (.slice 9)∧elemOf T 105=some I9:=⟨by kernel_rfl,rfl,rfl,rfl,rfl,by kernel_rfl,by kernel_rfl⟩
@[simp] theorem Yb:T.info 107=some Gj∧Gj.desc=Dd∧Gj.size=1∧Gj.bytes=24∧Gj.zero=[.nils]∧descOf T 107=some Dd∧aO Dd=true∧abd T 107 0=some (0,IK):=⟨by kernel_rfl,rfl,rfl,rfl,rfl,by kernel_rfl,rfl,by kernel_rfl⟩
@[simp] theorem akC:T.info 118=some Ni∧Ni.desc=.slice 4∧Ni.size=1∧Ni.bytes=24∧Ni.zero=[.nils]∧descOf T 118=some (.slice 4)∧elemOf T 118=some I4:=⟨by kernel_rfl,rfl,rfl,rfl,rfl,by kernel_rfl,by kernel_rfl⟩
@[simp] theorem Ya:T.info 120=some C9∧C9.desc=zR∧C9.size=2∧C9.bytes=24∧C9.zero=[.str ⟨#[]⟩,.int .i64 0]∧descOf T 120=some zR∧aO zR=true∧abd T 120 0=some (0,I9)∧abd T 120 1=some (1,I3):=⟨by kernel_rfl,rfl,rfl,rfl,rfl,by kernel_rfl,rfl,by kernel_rfl,by kernel_rfl⟩
@[simp] theorem akB:T.info 125=some Nf∧Nf.desc=.map 9 3∧Nf.size=1∧Nf.bytes=8∧Nf.zero=[.nilm]∧descOf T 125=some (.map 9 3):=⟨by kernel_rfl,rfl,rfl,rfl,rfl,by kernel_rfl⟩
@[simp] theorem akA:T.info 127=some Nc∧Nc.desc=.map 5 3∧Nc.size=1∧Nc.bytes=8∧Nc.zero=[.nilm]∧descOf T 127=some (.map 5 3):=⟨by kernel_rfl,rfl,rfl,rfl,rfl,by kernel_rfl⟩
@[simp] theorem X':T.info 132=some Gh∧Gh.desc=uT∧Gh.size=56∧Gh.bytes=760∧Gh.zero=[.str ⟨#[]⟩,.int .i64 0,.int .i64 0,.nils,.nils,.nils,.nils,.int .i64 0,.int .i64 0,.int .i64 0,.nils,.int .i64 0,.nils,.int .i64 0,.nils,.int .i64 0,.nils,.int .i64 0,.nils,.int .i64 0,.nils,.int .i64 0,.nils,.int .i64 0,.nils,.str ⟨#[]⟩,.int .u64 0,.int .u64 0,.nils,.nils,.int .i64 0,.int .i64 0,.int .i64 0,.int .i64 0,.int .u8 0,.int .i64 0,.int .i64 0,.int .u8 0,.int .i64 0,.int .u64 0,.str ⟨#[]⟩,.int .i64 0,.nils,.int .u8 0,.int .i64 0,.int .u64 0,.str ⟨#[]⟩,.int .i64 0,.nils,.int .u8 0,.int .i64 0,.int .u64 0,.str ⟨#[]⟩,.int .i64 0,.nils,.bool false]∧descOf T 132=some uT∧aO uT=true∧abd T 132 0=some (0,VE)∧abd T 132 1=some (24,RP)∧abd T 132 2=some (25,RF)∧abd T 132 3=some (34,Sn)∧abd T 132 4=some (55,I4):=⟨by kernel_rfl,rfl,rfl,rfl,rfl,by kernel_rfl,rfl,by kernel_rfl,by kernel_rfl,by kernel_rfl,by kernel_rfl,by kernel_rfl⟩
@[simp] theorem X_:T.info 145=some Gg∧Gg.desc=vX∧Gg.size=35∧Gg.bytes=520∧Gg.zero=[.str ⟨#[]⟩,.int .i64 0,.int .i64 0,.nils,.nils,.nils,.nils,.int .i64 0,.int .i64 0,.int .i64 0,.nils,.int .i64 0,.nils,.int .i64 0,.nils,.int .i64 0,.nils,.int .i64 0,.nils,.int .i64 0,.nils,.int .i64 0,.nils,.int .i64 0,.int .i64 0,.nils,.str ⟨#[]⟩,.int .u64 0,.int .u64 0,.nils,.nils,.int .i64 0,.int .i64 0,.int .i64 0,.int .i64 0]∧descOf T 145=some vX∧aO vX=true∧abd T 145 0=some (0,RR)∧abd T 145 1=some (7,Sp)∧abd T 145 2=some (24,Ga)∧abd T 145 3=some (26,RF):=⟨by kernel_rfl,rfl,rfl,rfl,rfl,by kernel_rfl,rfl,by kernel_rfl,by kernel_rfl,by kernel_rfl,by kernel_rfl⟩
@[simp] theorem X0:T.info 159=some C8∧C8.desc=zQ∧C8.size=2∧C8.bytes=16∧C8.zero=[.int .i64 0,.int .i64 0]∧descOf T 159=some zQ∧aO zQ=true∧abd T 159 0=some (0,I3)∧abd T 159 1=some (1,I3):=⟨by kernel_rfl,rfl,rfl,rfl,rfl,by kernel_rfl,rfl,by kernel_rfl,by kernel_rfl⟩
@[simp] theorem akz:T.info 168=some M8∧M8.desc=.map 9 79∧M8.size=1∧M8.bytes=8∧M8.zero=[.nilm]∧descOf T 168=some (.map 9 79):=⟨by kernel_rfl,rfl,rfl,rfl,rfl,by kernel_rfl⟩
@[simp] theorem aky:T.info 173=some M6∧M6.desc=.func #[64] #[64] false∧M6.size=1∧M6.bytes=8∧M6.zero=[.nilf]:=⟨by kernel_rfl,rfl,rfl,rfl,rfl⟩
@[simp] theorem akx:T.info 193=some M5∧M5.desc=.int .u64∧M5.size=1∧M5.bytes=8∧M5.zero=[.int .u64 0]∧descOf T 193=some (.int .u64):=⟨by kernel_rfl,rfl,rfl,rfl,rfl,by kernel_rfl⟩
@[simp] theorem akw:T.info 194=some M3∧M3.desc=.slice 197∧M3.size=1∧M3.bytes=24∧M3.zero=[.nils]∧descOf T 194=some (.slice 197)∧elemOf T 194=some C7:=⟨by kernel_rfl,rfl,rfl,rfl,rfl,by kernel_rfl,by kernel_rfl⟩
@[simp] theorem XZ:T.info 197=some C7∧C7.desc=zP∧C7.size=3∧C7.bytes=32∧C7.zero=[.str ⟨#[]⟩,.int .i64 0,.int .u64 0]∧descOf T 197=some zP∧aO zP=true∧abd T 197 0=some (0,I9)∧abd T 197 1=some (1,I3):=⟨by kernel_rfl,rfl,rfl,rfl,rfl,by kernel_rfl,rfl,by kernel_rfl,by kernel_rfl⟩
@[simp] theorem F2:T.info 204=some Gf∧Gf.desc=zO∧Gf.size=3∧Gf.bytes=32∧Gf.zero=[.str ⟨#[]⟩,.int .i64 0,.int .i64 0]∧descOf T 204=some zO∧aO zO=true∧abd T 204 1=some (1,I3)∧abd T 204 2=some (2,I3):=⟨by kernel_rfl,rfl,rfl,rfl,rfl,by kernel_rfl,rfl,by kernel_rfl,by kernel_rfl⟩
@[simp] theorem akv:T.info 211=some MW∧MW.desc=.slice 213∧MW.size=1∧MW.bytes=24∧MW.zero=[.nils]∧descOf T 211=some (.slice 213)∧elemOf T 211=some IJ:=⟨by kernel_rfl,rfl,rfl,rfl,rfl,by kernel_rfl,by kernel_rfl⟩
@[simp] theorem aku:T.info 213=some IJ∧IJ.desc=.func #[64] #[64,4] false∧IJ.size=1∧IJ.bytes=8∧IJ.zero=[.nilf]:=⟨by kernel_rfl,rfl,rfl,rfl,rfl⟩
@[simp] theorem akt:T.info 214=some MS∧MS.desc=.slice 257∧MS.size=1∧MS.bytes=24∧MS.zero=[.nils]:=⟨by kernel_rfl,rfl,rfl,rfl,rfl⟩
@[simp] theorem aks:T.info 217=some MR∧MR.desc=.slice 53∧MR.size=1∧MR.bytes=24∧MR.zero=[.nils]∧descOf T 217=some (.slice 53)∧elemOf T 217=some So:=⟨by kernel_rfl,rfl,rfl,rfl,rfl,by kernel_rfl,by kernel_rfl⟩
@[simp] theorem akr:T.info 225=some Ge∧Ge.desc=.array 25 204∧Ge.size=75∧Ge.bytes=800∧Ge.zero=[.str ⟨#[]⟩,.int .i64 0,.int .i64 0,.str ⟨#[]⟩,.int .i64 0,.int .i64 0,.str ⟨#[]⟩,.int .i64 0,.int .i64 0,.str ⟨#[]⟩,.int .i64 0,.int .i64 0,.str ⟨#[]⟩,.int .i64 0,.int .i64 0,.str ⟨#[]⟩,.int .i64 0,.int .i64 0,.str ⟨#[]⟩,.int .i64 0,.int .i64 0,.str ⟨#[]⟩,.int .i64 0,.int .i64 0,.str ⟨#[]⟩,.int .i64 0,.int .i64 0,.str ⟨#[]⟩,.int .i64 0,.int .i64 0,.str ⟨#[]⟩,.int .i64 0,.int .i64 0,.str ⟨#[]⟩,.int .i64 0,.int .i64 0,.str ⟨#[]⟩,.int .i64 0,.int .i64 0,.str ⟨#[]⟩,.int .i64 0,.int .i64 0,.str ⟨#[]⟩,.int .i64 0,.int .i64 0,.str ⟨#[]⟩,.int .i64 0,.int .i64 0,.str ⟨#[]⟩,.int .i64 0,.int .i64 0,.str ⟨#[]⟩,.int .i64 0,.int .i64 0,.str ⟨#[]⟩,.int .i64 0,.int .i64 0,.str ⟨#[]⟩,.int .i64 0,.int .i64 0,.str ⟨#[]⟩,.int .i64 0,.int .i64 0,.str ⟨#[]⟩,.int .i64 0,.int .i64 0,.str ⟨#[]⟩,.int .i64 0,.int .i64 0,.str ⟨#[]⟩,.int .i64 0,.int .i64 0,.str ⟨#[]⟩,.int .i64 0,.int .i64 0]∧descOf T 225=some (.array 25 204):=⟨by kernel_rfl,rfl,rfl,rfl,rfl,by kernel_rfl⟩
@[simp] theorem akq:T.info 234=some MO∧MO.desc=.map 5 211∧MO.size=1∧MO.bytes=8∧MO.zero=[.nilm]:=⟨by kernel_rfl,rfl,rfl,rfl,rfl⟩
@[simp] theorem akp:T.info 250=some MN∧MN.desc=.map 9 53∧MN.size=1∧MN.bytes=8∧MN.zero=[.nilm]:=⟨by kernel_rfl,rfl,rfl,rfl,rfl⟩
@[simp] theorem XY:T.info 257=some Gd∧Gd.desc=IM∧Gd.size=2∧Gd.bytes=16∧Gd.zero=[.int .u64 0,.int .u8 0]∧aO IM=true:=⟨by kernel_rfl,rfl,rfl,rfl,rfl,rfl⟩
@[simp] theorem ako:T.info 261=some Gc∧Gc.desc=.array 3 53∧Gc.size=3∧Gc.bytes=24∧Gc.zero=[.int .u64 0,.int .u64 0,.int .u64 0]∧descOf T 261=some (.array 3 53):=⟨by kernel_rfl,rfl,rfl,rfl,rfl,by kernel_rfl⟩
@[simp] theorem akm:T.info 273=some ML∧ML.desc=.func #[3,53,53] #[53] false∧ML.size=1∧ML.bytes=8∧ML.zero=[.nilf]:=⟨by kernel_rfl,rfl,rfl,rfl,rfl⟩
@[simp] theorem akl:T.info 276=some MK∧MK.desc=.int .i64∧MK.size=1∧MK.bytes=8∧MK.zero=[.int .i64 0]:=⟨by kernel_rfl,rfl,rfl,rfl,rfl⟩
@[simp] theorem akk:T.info 283=some MJ∧MJ.desc=.int .u32∧MJ.size=1∧MJ.bytes=4∧MJ.zero=[.int .u32 0]:=⟨by kernel_rfl,rfl,rfl,rfl,rfl⟩
@[simp] theorem akj:T.info 285=some Gb∧Gb.desc=.array 19 273∧Gb.size=19∧Gb.bytes=152∧Gb.zero=[.nilf,.nilf,.nilf,.nilf,.nilf,.nilf,.nilf,.nilf,.nilf,.nilf,.nilf,.nilf,.nilf,.nilf,.nilf,.nilf,.nilf,.nilf,.nilf]:=⟨by kernel_rfl,rfl,rfl,rfl,rfl⟩
@[simp] theorem aki:T.info 286=some MI∧MI.desc=.int .u64∧MI.size=1∧MI.bytes=8∧MI.zero=[.int .u64 0]:=⟨by kernel_rfl,rfl,rfl,rfl,rfl⟩
theorem bG{t:TypeId}{I:TI}{fs:Array Field}(h:I.desc=.struct fs)(ps:List (Nat×AV)):ji T t (some I) ps=.of ((de T t (I.zero.map .p) ps).map .agg):=by unfold ji;simp[h]
@[simp] theorem ajD:∀ps,ji T 27 (some RR) ps=.of ((de T 27 (RR.zero.map .p) ps).map .agg):=bG J27.2.1
@[simp] theorem ajC:∀ps,ji T 31 (some Ga) ps=.of ((de T 31 (Ga.zero.map .p) ps).map .agg):=bG J31.2.1
@[simp] theorem ajB:∀ps,ji T 33 (some Sp) ps=.of ((de T 33 (Sp.zero.map .p) ps).map .agg):=bG J33.2.1
@[simp] theorem ajA:∀ps,ji T 44 (some Y') ps=.of ((de T 44 (Y'.zero.map .p) ps).map .agg):=bG J44.2.1
@[simp] theorem ajz:∀ps,ji T 52 (some VI) ps=.of ((de T 52 (VI.zero.map .p) ps).map .agg):=bG J52.2.1
@[simp] theorem ajy:∀ps,ji T 57 (some RF) ps=.of ((de T 57 (RF.zero.map .p) ps).map .agg):=bG J57.2.1
@[simp] theorem ajx:∀ps,ji T 60 (some VG) ps=.of ((de T 60 (VG.zero.map .p) ps).map .agg):=bG J60.2.1
@[simp] theorem ajw:∀ps,ji T 64 (some Nu) ps=.of ((de T 64 (Nu.zero.map .p) ps).map .agg):=bG J64.2.1
@[simp] theorem ajv:∀ps,ji T 66 (some Sn) ps=.of ((de T 66 (Sn.zero.map .p) ps).map .agg):=bG J66.2.1
@[simp] theorem aju:∀ps,ji T 70 (some VF) ps=.of ((de T 70 (VF.zero.map .p) ps).map .agg):=bG J70.2.1
@[simp] theorem ajt:∀ps,ji T 74 (some VE) ps=.of ((de T 74 (VE.zero.map .p) ps).map .agg):=bG J74.2.1
@[simp] theorem ajs:∀ps,ji T 95 (some VD) ps=.of ((de T 95 (VD.zero.map .p) ps).map .agg):=bG J95.2.1
@[simp] theorem afn:∀ps,ji T 102 (some Gk) ps=.of ((de T 102 (Gk.zero.map .p) ps).map .agg):=bG Yc.2.1
@[simp] theorem afm:∀ps,ji T 107 (some Gj) ps=.of ((de T 107 (Gj.zero.map .p) ps).map .agg):=bG Yb.2.1
@[simp] theorem afl:∀ps,ji T 120 (some C9) ps=.of ((de T 120 (C9.zero.map .p) ps).map .agg):=bG Ya.2.1
@[simp] theorem afk:∀ps,ji T 132 (some Gh) ps=.of ((de T 132 (Gh.zero.map .p) ps).map .agg):=bG X'.2.1
@[simp] theorem afj:∀ps,ji T 145 (some Gg) ps=.of ((de T 145 (Gg.zero.map .p) ps).map .agg):=bG X_.2.1
@[simp] theorem afi:∀ps,ji T 159 (some C8) ps=.of ((de T 159 (C8.zero.map .p) ps).map .agg):=bG X0.2.1
@[simp] theorem afh:∀ps,ji T 197 (some C7) ps=.of ((de T 197 (C7.zero.map .p) ps).map .agg):=bG XZ.2.1
@[simp] theorem afg:∀ps,ji T 204 (some Gf) ps=.of ((de T 204 (Gf.zero.map .p) ps).map .agg):=bG F2.2.1
@[simp] theorem afe:∀ps,ji T 257 (some Gd) ps=.of ((de T 257 (Gd.zero.map .p) ps).map .agg):=bG XY.2.1
@[simp] theorem aff(ps:List (Nat×AV)):ji T 225 (some Ge) ps=Mb (T.info 204) Ge.zero ps:=rfl
@[simp] theorem afd(ps:List (Nat×AV)):ji T 261 (some Gc) ps=Mb (T.info 53) Gc.zero ps:=rfl
@[simp] theorem afc(ps:List (Nat×AV)):ji T 285 (some Gb) ps=Mb (T.info 273) Gb.zero ps:=rfl
@[simp] theorem aBq(f d:Nat):T.own f d=(rows f).own d:=rfl
@[simp] theorem azK(f d:Nat):T.keep f d=(rows f).keep d:=rfl
@[simp] theorem azG(f d:Nat):T.seqs f d=(rows f).seqs d:=rfl
@[simp] theorem azJ(f d:Nat):T.late f d=(rows f).late d:=rfl
@[simp] theorem azL(f d:Nat):T.grow f d=(rows f).grow d:=rfl
@[simp] theorem avp(f:Nat):T.fresh f=false:=rfl
@[simp] theorem azI(f:Nat):T.muts f=[74].contains f:=rfl
@[simp] theorem avo(f:Nat):T.gives f=[8,22,78,169,225,226,227,252].contains f:=rfl
@[simp] theorem azM(g:Nat):T.glob g=if g=0 then some lR else none:=rfl
attribute [irreducible] I2 I3 I4 I5 I9 J0 JZ F_ F9 RR RP F8 Ga Sp MP Y' VI So F7 F6 RF F5 VG F4 Nu Sn VF VE F3 MM VD Gk IK Gj Ni C9 Nf Nc Gh Gg C8 M8 M6 M5 M3 C7 Gf MW IJ MS MR Ge MO MN Gd Gc ML MK MJ Gb MI
theorem afo(n f:Nat)(a:List AV)(h:Hp){fn:Func}(hf:fs f=some fn)(hs:T.split f=false):R (n+1) f a h=enter T (R n) (Y n) n f fn a h:=OB hf hs
theorem aE(f:Nat){n:Nat}{fn:Func}{args:List AV}{h:Hp}{c:Code}{nt:Nat}{rs:List ResultVar}(hf:fs f=some fn)(hs:(T.split f,fn.body,fn.ntmps,fn.results.toList)=(false,some c,nt,rs))(ha:Nat.ble args.length nt=true):
  R (n+1) f args h=Qm ⟨T,R n,Y n,f,nt,n,false⟩ h.length rs (ia ⟨T,R n,Y n,f,nt,n,false⟩ c 0 ⟨fK args 0,h⟩):=by
 simp only[Prod.mk.injEq] at hs
 rw[afo _ _ _ _ hf hs.1,sW hs.2.1 hs.2.2.1 hs.2.2.2 (Nat.le_of_ble_eq_true ha)]
theorem up(N:Nat)(h:0<N:=by omega):∃n,N=n+1:=⟨N-1,by omega⟩
theorem Vx(n f:Nat)(a:List AV)(h:Hp){fn:Func}(hf:fs f=some fn)(hs:kT a h=false):R (n+1) f a h=enter T (R n) (Y n) n f fn a h:=Kt hf hs
theorem iZ(N:Nat)(hN:1≤N)(a b c:Int):R N 38 [ai a,ai b,ai c] []=some (ab (aj (decide (b≤a)) (decide (a≤c))),[]):=by
 have aa:rows 38={}:=rfl
 obtain⟨n,rfl⟩:=up N
 rw[aE 38 Tryz.func38 rfl rfl]
 simp[aa]
theorem tr(N:Nat)(hN:1≤N)(a b c:Int):R N 57 [ai a,ai b,ai c] []=some (ab (aj (decide (b≤a)) (decide (a≤c))),[]):=by
 have aa:rows 57={}:=rfl
 obtain⟨n,rfl⟩:=up N
 rw[aE 57 Tryz.func57 rfl rfl]
 simp[aa]
theorem aos(N:Nat)(hN:1≤N)(p:eU)(r:Int):R N 50 [ag (aD p),ai r] []=some (ab (aj (decide (0≤r)) (decide (r<p.m.regs.length))),[]):=by
 have aa:rows 50={}:=rfl
 obtain⟨n,rfl⟩:=up N
 rw[aE 50 Tryz.func50 rfl rfl]
 simp[aa]
def gX(m:aw)(r:Int):Int:=if (nth m.regs r).of=-1 then r else(nth m.regs r).of
def oc(m:aw)(r:Int):Int:=if (nth m.regs r).of=-1 then 0 else(nth m.regs r).low
def od(m:aw)(r:Int):Int:=if (nth m.regs r).of=-1 then(nth m.regs r).width else IntKind.i64.wrap ((nth m.regs r).low+(nth m.regs r).width)
theorem I6(N:Nat)(hN:1≤N)(p:eU)(r:Int)(h0:0≤r)(h1:r<p.m.regs.length):R N 80 [ag (aD p),ai r] []=
  some (.tup [ai (gX p.m r),ai (oc p.m r),ai (od p.m r)],[]):=by
 have aa:rows 80={}:=rfl
 obtain⟨n,rfl⟩:=up N
 rw[aE 80 Tryz.func80 rfl rfl]
 obtain⟨x,h2,hx,bI,_⟩:=aR h0 h1
 simp only[gX,oc,od,bI]
 by_cases h:x.of=-1<;>simp[aa,h0,h1,h2,hx,h]
theorem zg(N:Nat)(l:List Int)(g:Nat)(bs:List (List PV))(p:Int→Bool)(oN:T.muts g=false)(hb:0<bs.length)(hN:l.length+1<N)(hl:l.length≤1000000)
  (hg:∀M,N-1=M→∀x∈l,R M g (ai x::refs bs.length) (boxes bs)=some (ab (p x),boxes bs)):
  R N 35 [.p (ints l),.fn g (refs bs.length)] (boxes bs)=some (ai (fC p l),boxes bs):=by
 have aa:rows 35=_:=RK.eq_1
 obtain⟨n,rfl⟩:=up N
 rw[aE 35 Tryz.func35 rfl rfl]
 simp at oN
 have hs:∀x∈l,cJ (R n) g (ai x::refs bs.length) (boxes bs)=some (ab (p x),boxes bs):=fun x hx=>alw (hg n rfl x hx)
 simp[aa]
 rw[abD l p (fun k=>⟨[(0,.p (ints l)),(1,.fn g (refs bs.length)),(4,ai 0),(7,ai l.length),(8,ai k)],boxes bs⟩)
  (fun k=>(.ret,⟨[(0,.p (ints l)),(1,.fn g (refs bs.length)),(4,ai k),(7,ai l.length),(8,ai k)],boxes bs⟩)) (by omega) (by simp) (by
    intro k x h hx _ hm K
    have w1:=aA h hl
    by_cases hp:p x=true<;>simp[-fI,h,hx,hs x hm,hp,hb,w1,oN]) (by simp)]
 rcases ao p l with⟨e1,_,e2⟩|⟨i,e1,_,e2⟩<;>simp[e1,e2]
theorem di(N:Nat)(l:List Int)(g:Nat)(bs:List (List PV))(p:Int→Bool)(oN:T.muts g=false)(hb:0<bs.length)(hN:l.length+2<N)(hl:l.length≤1000000)
  (hg:∀M,N-2=M→∀x∈l,R M g (ai x::refs bs.length) (boxes bs)=some (ab (p x),boxes bs)):
  R N 19 [.p (ints l),.fn g (refs bs.length)] (boxes bs)=some (ab (l.any p),boxes bs):=by
 have aa:rows 19={}:=rfl
 obtain⟨n,rfl⟩:=up N
 rw[aE 19 Tryz.func19 rfl rfl]
 have hs:=Oc (zg n l g bs p oN hb (by omega) hl (fun M hM=>hg M (by omega)))
 simp[-fI,aa,hs,←kz]
def aP(m:aw)(r o:Int):Bool:=if o<0 then false else aj (aj (decide (gX m r=gX m o)) (decide (oc m r<od m o))) (decide (oc m o<od m r))
theorem O0(N:Nat)(hN:2≤N)(p:eU)(r o:Int)(h1:o<p.m.regs.length):
  R N 81 (ai o::refs 4) (boxes [aD p,[i64 (gX p.m r)],[i64 (oc p.m r)],[i64 (od p.m r)]])=
   some (ab (aP p.m r o),boxes [aD p,[i64 (gX p.m r)],[i64 (oc p.m r)],[i64 (od p.m r)]]):=by
 have aa:rows 81={}:=rfl
 obtain⟨n,rfl⟩:=up N
 rw[aE 81 Tryz.func81 rfl rfl]
 by_cases h:o<0
 ·simp[aa,h,boxes,refs,fA,aP]
 ·have hs:=I6 n (by omega) p o (by omega) h1
  simp[aa,h,boxes,refs,fA,hs,aP]
def fO(m:aw)(l:List Int):Prop:=∀x∈l,x<(m.regs.length:Int)
theorem iw(N:Nat)(p:eU)(r:Int)(l:List Int)(hN:l.length+5<N)(hl:l.length≤1000000)(h0:0≤r)(h1:r<p.m.regs.length)(ho:fO p.m l):
  R N 51 [ag (aD p),ai r,.p (ints l)] []=some (ab (l.any (aP p.m r)),[]):=by
 have aa:rows 51={}:=rfl
 obtain⟨n,rfl⟩:=up N
 rw[aE 51 Tryz.func51 rfl rfl]
 have hs:=I6 n (by omega) p r h0 h1
 have hc:=di n l 81 [aD p,[i64 (gX p.m r)],[i64 (oc p.m r)],[i64 (od p.m r)]] (aP p.m r) rfl (by simp) (by omega) hl (fun M hM x hx=>O0 M (by omega) p r x (ho x hx))
 simp[boxes,refs,fA] at hc
 simp[aa,hs,hc]
theorem II(N:Nat)(l:List Int)(v:Int)(hN:l.length+1<N)(hl:l.length≤1000000):
  R N 71 [.p (ints l),ai v] []=some (ai (fC (fun x=>decide (v=x)) l),[]):=by
 have aa:rows 71=_:=Yy.eq_1
 obtain⟨n,rfl⟩:=up N
 rw[aE 71 Tryz.func71 rfl rfl]
 simp[aa]
 rw[abD l (fun x=>decide (v=x)) (fun k=>⟨[(0,.p (ints l)),(1,ai v),(4,ai 0),(7,ai l.length),(8,ai k)],[]⟩)
  (fun k=>(.ret,⟨[(0,.p (ints l)),(1,ai v),(4,ai k),(7,ai l.length),(8,ai k)],[]⟩)) (by omega) (by simp) (by
    intro k x h hx _ hm K
    have w1:=aA h hl
    by_cases hp:v=x<;>simp[h,hx,hp,w1]) (by simp)]
 rcases ao (fun x=>decide (v=x)) l with⟨e1,_,e2⟩|⟨i,e1,_,e2⟩<;>simp[e1,e2]
theorem fj(N:Nat)(l:List Int)(v:Int)(hN:l.length+2<N)(hl:l.length≤1000000):
  R N 40 [.p (ints l),ai v] []=some (ab (l.any fun x=>decide (v=x)),[]):=by
 have aa:rows 40={}:=rfl
 obtain⟨n,rfl⟩:=up N
 rw[aE 40 Tryz.func40 rfl rfl]
 simp[aa,II n l v (by omega) hl,←kz]
@[reducible] def strs(l:List ByteArray):PV:=.sl (l.map PV.str)
theorem IH(N:Nat)(l:List ByteArray)(v:ByteArray)(hN:l.length+1<N)(hl:l.length≤1000000):
  R N 112 [.p (strs l),.p (.str v)] []=some (ai (fC (fun x=>cc v x) l),[]):=by
 have aa:rows 112=_:=aaa.eq_1
 obtain⟨n,rfl⟩:=up N
 rw[aE 112 Tryz.func112 rfl rfl]
 simp[aa]
 rw[abD l (fun x=>cc v x) (fun k=>⟨[(0,.p (strs l)),(1,.p (.str v)),(4,ai 0),(7,ai l.length),(8,ai k)],[]⟩)
  (fun k=>(.ret,⟨[(0,.p (strs l)),(1,.p (.str v)),(4,ai k),(7,ai l.length),(8,ai k)],[]⟩)) (by omega) (by simp) (by
    intro k x h hx _ hm K
    have w1:=aA h hl
    by_cases hp:cc v x=true<;>simp[h,hx,hp,w1]) (by simp)]
 rcases ao (fun x=>cc v x) l with⟨e1,_,e2⟩|⟨i,e1,_,e2⟩<;>simp[e1,e2]
theorem zT(N:Nat)(l:List ByteArray)(v:ByteArray)(hN:l.length+2<N)(hl:l.length≤1000000):
  R N 75 [.p (strs l),.p (.str v)] []=some (ab (l.any fun x=>cc v x),[]):=by
 have aa:rows 75={}:=rfl
 obtain⟨n,rfl⟩:=up N
 rw[aE 75 Tryz.func75 rfl rfl]
 simp[aa,IH n l v (by omega) hl,←kz]
theorem aoy(N:Nat)(p:eU)(r b:Int)(h0:0≤b)(h1:b<p.m.banks.length)(hN:(nth p.m.banks b).regs.length+3<N)(hl:(nth p.m.banks b).regs.length≤1000000):
  R N 117 [ag (aD p),ai r,ai b] []=some (ab ((nth p.m.banks b).regs.any fun x=>decide (r=x)),[]):=by
 have aa:rows 117={}:=rfl
 obtain⟨n,rfl⟩:=up N
 rw[aE 117 Tryz.func117 rfl rfl]
 obtain⟨x,h2,hx,bI,_⟩:=aR h0 h1
 rw[bI] at hN hl ⊢
 simp[aa,h0,h1,h2,hx,fj n x.regs r (by omega) hl]
theorem ND(N:Nat)(hN:1≤N)(p:eU)(b:Int)(h0:0≤b)(h1:b<p.m.banks.length)(h2:0<(nth p.m.banks b).regs.length)(h3:0≤nth (nth p.m.banks b).regs 0)(h4:nth (nth p.m.banks b).regs 0<p.m.regs.length):
  R N 21 [ag (aD p),ai b] []=some (ai (nth p.m.regs (nth (nth p.m.banks b).regs 0)).width,[]):=by
 have aa:rows 21={}:=rfl
 obtain⟨n,rfl⟩:=up N
 rw[aE 21 Tryz.func21 rfl rfl]
 obtain⟨x,h5,hx,bI,_⟩:=aR h0 h1
 rw[bI] at h2 h3 h4 ⊢
 obtain⟨y,hy,dV,_⟩:=ay (k:=0) h2
 have dV:nth x.regs 0=y:=dV
 rw[dV] at h3 h4 ⊢
 obtain⟨z,h6,hz,Cd,_⟩:=aR h3 h4
 rw[Cd]
 simp[aa,h0,h1,h5,hx,hy,h2,h3,h4,h6,hz]
theorem yO(N:Nat)(hN:1≤N)(w:Int):R N 113 [ai w] []=some (ab (aj (decide (1≤w)) (decide (w≤64))),[]):=by
 have aa:rows 113={}:=rfl
 obtain⟨n,rfl⟩:=up N
 rw[aE 113 Tryz.func113 rfl rfl]
 simp[aa]
theorem Dv(N:Nat)(hN:1≤N)(w:Int):R N 185 [ai w] []=some (ab (aj (decide (1≤w)) (decide (w≤64))),[]):=by
 have aa:rows 185={}:=rfl
 obtain⟨n,rfl⟩:=up N
 rw[aE 185 Tryz.func185 rfl rfl]
 simp[aa]
theorem w_(N:Nat)(hN:1≤N)(w:Int):R N 192 [ai w] []=some (ab (aj (decide (1≤w)) (decide (w≤64))),[]):=by
 have aa:rows 192={}:=rfl
 obtain⟨n,rfl⟩:=up N
 rw[aE 192 Tryz.func192 rfl rfl]
 simp[aa]
def gE(w:Int):Bool:=cE (cE (cE (decide (w=8)) (decide (w=16))) (decide (w=32))) (decide (w=64))
theorem El(N:Nat)(hN:1≤N)(w:Int):R N 207 [ai w] []=some (ab (gE w),[]):=by
 have aa:rows 207={}:=rfl
 obtain⟨n,rfl⟩:=up N
 rw[aE 207 Tryz.func207 rfl rfl]
 simp[aa,gE]
theorem KD(N:Nat)(hN:1≤N)(w:Int):R N 195 [ai w] []=some (ab (gE w),[]):=by
 have aa:rows 195={}:=rfl
 obtain⟨n,rfl⟩:=up N
 rw[aE 195 Tryz.func195 rfl rfl]
 simp[aa,gE]
def B5(c:Int):Bool:=cE (aj (decide (97≤c)) (decide (c≤122))) (aj (decide (65≤c)) (decide (c≤90)))
def yW(k:Nat)(c:Int):Bool:=aj (!B5 c) (cE (decide (k=0)) (aj (!decide (c=95)) (cE (decide (c<48)) (decide (57<c)))))
def ck(s:ByteArray):Bool:=decide (1≤s.size)&&decide (s.size≤24)&&(List.range s.size).all fun k=> !yW k (ig s k)
theorem CZ(N:Nat)(s:ByteArray)(hN:26<N):R N 44 [.p (.str s)] []=some (ab (ck s),[]):=by
 have aa:rows 44=_:=YQ.eq_1
 obtain⟨n,rfl⟩:=up N
 rw[aE 44 Tryz.func44 rfl rfl]
 by_cases h1:(s.size:Int)<1
 ·have:ck s=false:=by have:¬1≤s.size:=by omega
                      simp[ck,this]
  simp[aa,h1,this]
 by_cases h2:24<(s.size:Int)
 ·have:ck s=false:=by have:¬s.size≤24:=by omega
                      simp[ck,this]
  simp[aa,h1,h2,this]
 have h3:ck s= !(List.range s.size).any fun k=>yW k (ig s k):=by
  have a:1≤s.size:=by omega
  have b:s.size≤24:=by omega
  simp[ck,a,b,List.not_any_eq_all_not]
 simp[aa,h1,h2]
 rw[acI s.size (fun k=>yW k (ig s k)) (fun k=>⟨[(0,.p (.str s)),(2,ab false),(15,ai s.size),(16,ai k)],[]⟩)
  (fun k=>(.ret,⟨[(0,.p (.str s)),(2,ab false),(15,ai s.size),(16,ai k)],[]⟩)) (by omega) (by simp) (by
    intro k h K
    have w1:=aA h (by omega)
    generalize hb:yW k (ig s k)=b
    simp[yW,B5,Int.ofNat_inj] at hb
    cases b<;>simp[h,w1,hb]) (by simp),h3]
 rcases ao (fun k:Nat=>yW k (ig s k)) (List.range s.size) with⟨e1,e2,_⟩|⟨i,e1,e2,_⟩<;>simp[e1,e2]
theorem kL(N:Nat)(s:ByteArray)(hN:26<N):R N 56 [.p (.str s)] []=some (ab (ck s),[]):=by
 have aa:rows 56=_:=YH.eq_1
 obtain⟨n,rfl⟩:=up N
 rw[aE 56 Tryz.func56 rfl rfl]
 by_cases h1:(s.size:Int)=0
 ·have:ck s=false:=by have:¬1≤s.size:=by omega
                      simp[ck,this]
  simp[aa,h1,this]
 by_cases h2:24<(s.size:Int)
 ·have:ck s=false:=by have:¬s.size≤24:=by omega
                      simp[ck,this]
  simp[aa,h1,h2,this]
 have h3:ck s= !(List.range s.size).any fun k=>yW k (ig s k):=by
  have a:1≤s.size:=by omega
  have b:s.size≤24:=by omega
  simp[ck,a,b,List.not_any_eq_all_not]
 have nA:s≠ByteArray.empty:=by rintro rfl;simp at h1
 simp[aa,nA,h2]
 rw[acI s.size (fun k=>yW k (ig s k)) (fun k=>⟨[(0,.p (.str s)),(2,ab false),(3,ai k)],[]⟩)
  (fun k=>(.ret,⟨[(0,.p (.str s)),(2,ab false),(3,ai k)],[]⟩)) (by omega) (by simp) (by
    intro k h K
    have w1:=aA h (by omega)
    generalize hb:yW k (ig s k)=b
    have e:aj (!B5 (ig s k)) (cE (decide (k=0)) (!cE (aj (decide (48≤ig s k)) (decide (ig s k≤57))) (decide (ig s k=95))))=b:=by
     rw[←hb]
     simp only[yW]
     congr 2
     generalize ig s k=c
     simp only[aj,cE]
     rw[Bool.eq_iff_iff]
     simp
     omega
    simp[B5,Int.ofNat_inj] at e
    cases b<;>simp[h,w1,e]) (by simp),h3]
 rcases ao (fun k:Nat=>yW k (ig s k)) (List.range s.size) with⟨e1,e2,_⟩|⟨i,e1,e2,_⟩<;>simp[e1,e2]
def br(w:Int):Int:=if 1≤w∧w≤64 then 2^w.toNat-1 else 0
theorem Pc:∀k:Nat,k<64→(18446744073709551615:Int).fdiv (2^k)=2^(64-k)-1:=by decide
theorem jr(N:Nat)(hN:2≤N)(w:Int):R N 76 [ai w] []=some (.p (.int .u64 (br w)),[]):=by
 have aa:rows 76={}:=rfl
 obtain⟨n,rfl⟩:=up N
 rw[aE 76 Tryz.func76 rfl rfl]
 have hw:=yO n (by omega) w
 by_cases h:1≤w∧w≤64
 ·have h3:IntKind.i64.wrap (64-w)=64-w:=wrap64 (by omega) (by omega)
  have h4:0≤64-w:=by omega
  have h5:(18446744073709551615:Int).fdiv (2^(min (64-w).toNat 64))=2^w.toNat-1:=by
   rw[show min (64-w).toNat 64=64-w.toNat from by omega,Pc _ (by omega)]
   congr 2;omega
  simp[aa,hw,h.1,h.2,br,h3,h4,h5]
 ·have h':aj (decide (1≤w)) (decide (w≤64))=false:=by simp only[aj];simp;omega
  simp[aa,hw,h',br,h]
theorem zL(N:Nat)(l:List zU)(g:Nat)(bs:List (List PV))(p:zU→Bool)(oN:T.muts g=false)(hb:0<bs.length)(hN:l.length+1<N)(hl:l.length≤1000000)
  (hg:∀M,N-1=M→∀x∈l,R M g (ag (ew x)::refs bs.length) (boxes bs)=some (ab (p x),boxes bs)):
  R N 118 [.p (.sl (l.map iG)),.fn g (refs bs.length)] (boxes bs)=some (ai (fC p l),boxes bs):=by
 have aa:rows 118=_:=Z9.eq_1
 obtain⟨n,rfl⟩:=up N
 rw[aE 118 Tryz.func118 rfl rfl]
 simp at oN
 have hs:∀x∈l,cJ (R n) g (ag (ew x)::refs bs.length) (boxes bs)=some (ab (p x),boxes bs):=fun x hx=>Ob (hg n rfl x hx)
 simp[aa]
 rw[abD l p (fun k=>⟨[(0,.p (.sl (l.map iG))),(1,.fn g (refs bs.length)),(4,ai 0),(7,ai l.length),(8,ai k)],boxes bs⟩)
  (fun k=>(.ret,⟨[(0,.p (.sl (l.map iG))),(1,.fn g (refs bs.length)),(4,ai k),(7,ai l.length),(8,ai k)],boxes bs⟩)) (by omega) (by simp) (by
    intro k x h hx _ hm K
    have w1:=aA h hl
    by_cases hp:p x=true<;>simp[-fI,h,hx,hs x hm,hp,hb,w1,oN]) (by simp)]
 rcases ao p l with⟨e1,_,e2⟩|⟨i,e1,_,e2⟩<;>simp[e1,e2]
theorem zM(N:Nat)(l:List qw)(g:Nat)(bs:List (List PV))(p:qw→Bool)(oN:T.muts g=false)(hb:0<bs.length)(hN:l.length+1<N)(hl:l.length≤1000000)
  (hg:∀M,N-1=M→∀x∈l,R M g (ag (fJ x)::refs bs.length) (boxes bs)=some (ab (p x),boxes bs)):
  R N 170 [.p (.sl (l.map n4)),.fn g (refs bs.length)] (boxes bs)=some (ai (fC p l),boxes bs):=by
 have aa:rows 170=_:=ZU.eq_1
 obtain⟨n,rfl⟩:=up N
 rw[aE 170 Tryz.func170 rfl rfl]
 simp at oN
 have hs:∀x∈l,cJ (R n) g (ag (fJ x)::refs bs.length) (boxes bs)=some (ab (p x),boxes bs):=fun x hx=>Ob (hg n rfl x hx)
 simp[aa]
 rw[abD l p (fun k=>⟨[(0,.p (.sl (l.map n4))),(1,.fn g (refs bs.length)),(4,ai 0),(7,ai l.length),(8,ai k)],boxes bs⟩)
  (fun k=>(.ret,⟨[(0,.p (.sl (l.map n4))),(1,.fn g (refs bs.length)),(4,ai k),(7,ai l.length),(8,ai k)],boxes bs⟩)) (by omega) (by simp) (by
    intro k x h hx _ hm K
    have w1:=aA h hl
    by_cases hp:p x=true<;>simp[-fI,h,hx,hs x hm,hp,hb,w1,oN]) (by simp)]
 rcases ao p l with⟨e1,_,e2⟩|⟨i,e1,_,e2⟩<;>simp[e1,e2]
theorem uU(N:Nat)(l:List qw)(g:Nat)(bs:List (List PV))(p:qw→Bool)(oN:T.muts g=false)(hb:0<bs.length)(hN:l.length+2<N)(hl:l.length≤1000000)
  (hg:∀M,N-2=M→∀x∈l,R M g (ag (fJ x)::refs bs.length) (boxes bs)=some (ab (p x),boxes bs)):
  R N 140 [.p (.sl (l.map n4)),.fn g (refs bs.length)] (boxes bs)=some (ab (l.any p),boxes bs):=by
 have aa:rows 140={}:=rfl
 obtain⟨n,rfl⟩:=up N
 rw[aE 140 Tryz.func140 rfl rfl]
 have hs:=Oc (zM n l g bs p oN hb (by omega) hl (fun M hM=>hg M (by omega)))
 simp[-fI,aa,hs,←kz]
theorem C5(N:Nat)(l:List Tr)(g:Nat)(bs:List (List PV))(p:Tr→Bool)(oN:T.muts g=false)(hb:0<bs.length)(hN:l.length+1<N)(hl:l.length≤1000000)
  (hg:∀M,N-1=M→∀x∈l,R M g (ag (aC x)::refs bs.length) (boxes bs)=some (ab (p x),boxes bs)):
  R N 237 [.p (.sl (l.map aT)),.fn g (refs bs.length)] (boxes bs)=some (ai (fC p l),boxes bs):=by
 have aa:rows 237=_:=Zu.eq_1
 obtain⟨n,rfl⟩:=up N
 rw[aE 237 Tryz.func237 rfl rfl]
 simp at oN
 have hs:∀x∈l,cJ (R n) g (ag (aC x)::refs bs.length) (boxes bs)=some (ab (p x),boxes bs):=fun x hx=>Ob (hg n rfl x hx)
 simp[aa]
 rw[abD l p (fun k=>⟨[(0,.p (.sl (l.map aT))),(1,.fn g (refs bs.length)),(4,ai 0),(7,ai l.length),(8,ai k)],boxes bs⟩)
  (fun k=>(.ret,⟨[(0,.p (.sl (l.map aT))),(1,.fn g (refs bs.length)),(4,ai k),(7,ai l.length),(8,ai k)],boxes bs⟩)) (by omega) (by simp) (by
    intro k x h hx _ hm K
    have w1:=aA h hl
    by_cases hp:p x=true<;>simp[-fI,h,hx,hs x hm,hp,hb,w1,oN]) (by simp)]
 rcases ao p l with⟨e1,_,e2⟩|⟨i,e1,_,e2⟩<;>simp[e1,e2]
theorem vY(N:Nat)(l:List Tr)(g:Nat)(bs:List (List PV))(p:Tr→Bool)(oN:T.muts g=false)(hb:0<bs.length)(hN:l.length+2<N)(hl:l.length≤1000000)
  (hg:∀M,N-2=M→∀x∈l,R M g (ag (aC x)::refs bs.length) (boxes bs)=some (ab (p x),boxes bs)):
  R N 205 [.p (.sl (l.map aT)),.fn g (refs bs.length)] (boxes bs)=some (ab (l.any p),boxes bs):=by
 have aa:rows 205={}:=rfl
 obtain⟨n,rfl⟩:=up N
 rw[aE 205 Tryz.func205 rfl rfl]
 have hs:=Oc (C5 n l g bs p oN hb (by omega) hl (fun M hM=>hg M (by omega)))
 simp[-fI,aa,hs,←kz]
def Pu(m:aw)(r:Int):Prop:=0≤r∧r<(m.regs.length:Int)
structure qa(m:aw):Prop where
 nr:m.regs.length≤64
 nb:m.banks.length≤16
 bn:∀b∈m.banks,0<b.regs.length∧b.regs.length≤64∧∀r∈b.regs,Pu m r
theorem qa.bank{m:aw}(h:qa m){b:Int}(h0:0≤b)(h1:b<m.banks.length):0<(nth m.banks b).regs.length∧(nth m.banks b).regs.length≤64∧∀r∈(nth m.banks b).regs,Pu m r:=by
 obtain⟨x,_,_,hx,hm⟩:=aR h0 h1
 rw[hx];exact h.bn x hm
def zm(m:aw)(b r:Int):Bool:=(nth m.banks b).regs.any fun x=>decide (r=x)
def cy(m:aw)(b:Int):Int:=(nth m.regs (nth (nth m.banks b).regs 0)).width
theorem in'(N:Nat)(hN:70≤N){p:eU}(hw:qa p.m)(r:Int){b:Int}(h0:0≤b)(h1:b<p.m.banks.length):
  R N 117 [ag (aD p),ai r,ai b] []=some (ab (zm p.m b r),[]):=by
 have:=hw.bank h0 h1
 exact aoy N p r b h0 h1 (by omega) (by omega)
theorem Bj(N:Nat)(hN:1≤N){p:eU}(hw:qa p.m){b:Int}(h0:0≤b)(h1:b<p.m.banks.length):
  R N 21 [ag (aD p),ai b] []=some (ai (cy p.m b),[]):=by
 obtain⟨a,_,c⟩:=hw.bank h0 h1
 obtain⟨y,_,dV,hm⟩:=ay a
 have dV:nth (nth p.m.banks b).regs 0=y:=dV
 have:=c y hm
 exact ND N hN p b h0 h1 a (by rw[dV];exact this.1) (by rw[dV];exact this.2)
theorem Ld(N:Nat)(hN:71≤N)(p:eU)(hw:qa p.m)(r:Int)(x:zU)(h0:0≤x.bank)(h1:x.bank<p.m.banks.length):
  R N 119 (ag (ew x)::refs 2) (boxes [aD p,[i64 r]])=some (ab (zm p.m x.bank r),boxes [aD p,[i64 r]]):=by
 have aa:rows 119={}:=rfl
 obtain⟨n,rfl⟩:=up N
 rw[aE 119 Tryz.func119 rfl rfl]
 have:=in' n (by omega) hw r h0 h1
 simp[aa,boxes,refs,fA,this]
theorem O9(N:Nat)(hN:1100≤N)(p:eU)(hw:qa p.m)(r:Int)(hl:p.c.moves.length≤1000)(hm:∀x∈p.c.moves,0≤x.bank∧x.bank<p.m.banks.length):
  R N 83 [ag (aD p),ai r] []=some (ai (fC (fun x=>zm p.m x.bank r) p.c.moves),[]):=by
 have aa:rows 83={}:=rfl
 obtain⟨n,rfl⟩:=up N
 rw[aE 83 Tryz.func83 rfl rfl]
 have hc:=zL n p.c.moves 119 [aD p,[i64 r]] (fun x=>zm p.m x.bank r) rfl (by simp) (by omega) (by omega) (fun M hM x hx=>Ld M (by omega) p hw r x (hm x hx).1 (hm x hx).2)
 simp[boxes,refs,fA] at hc
 simp[aa,hc]
def vh(m:aw)(r:Int):Bool:=aj (decide (0≤r)) (decide (r<(m.regs.length:Int)))
theorem cT{m:aw}{r:Int}:vh m r=true↔Pu m r:=by simp[vh,Pu,aj]
theorem Vi(N:Nat)(hN:1≤N)(p:eU)(r:Int):R N 50 [ag (aD p),ai r] []=some (ab (vh p.m r),[]):=aos N hN p r
def iW(m:aw)(c:Conv)(r:Int)(l:List Int):Bool:=vh m r&&zm m c.bank r&& !l.any (aP m r)
theorem JL(N:Nat)(hN:1100≤N)(p:eU)(hw:qa p.m)(r:Int)(l:List Int)(hl:l.length≤1000)(h0:0≤p.c.bank)(h1:p.c.bank<p.m.banks.length)(ho:fO p.m l):
  R N 82 [ag (aD p),ai r,.p (ints l)] []=some (ab (iW p.m p.c r l),[]):=by
 have aa:rows 82={}:=rfl
 obtain⟨n,rfl⟩:=up N
 rw[aE 82 Tryz.func82 rfl rfl]
 have hi:=Vi n (by omega) p r
 have ny:=in' n (by omega) hw r h0 h1
 cases h:vh p.m r
 ·rw[h] at hi
  simp[aa,hi,ny,iW,h]
 ·rw[h] at hi
  have hr:=cT.1 h
  have tu:=iw n p r l (by omega) (by omega) hr.1 hr.2 ho
  cases h2:zm p.m p.c.bank r<;>rw[h2] at ny<;>simp[aa,hi,ny,tu,iW,h,h2]
def fR(l:List Int)(x:Int):Nat→List Int
 |0=>[]
 |k+1=>if x=nth l (k:Int) then fR l x k++[(k:Int)] else fR l x k
theorem dQ(l:List Int)(x:Int):∀k,(fR l x k).length≤k
 |0=>Nat.le_refl _
 |k+1=>by
  have:=dQ l x k
  simp only[fR];split<;>simp<;>omega
def bo(l:List Int)(x:Int):List Int:=fR l x l.length
theorem FN(N:Nat)(v:View)(x:Int)(hN:v.args.length+1<N)(hl:v.args.length≤1000):
  R N 143 [ag (aB v),ai x] []=some (.p (ints (bo v.args x)),[]):=by
 have aa:rows 143=_:=NL.eq_1
 obtain⟨n,rfl⟩:=up N
 rw[aE 143 Tryz.func143 rfl rfl]
 simp[aa]
 rw[abC v.args.length (fun k=>⟨[(1,ai x),(5,.arr 2 (fR v.args x k).length 0 (fR v.args x k).length),(9,.p (ints v.args)),(10,ai v.args.length),(11,ai k)],
    [bx (aB v),.arr 0 1 false [],.arr (fR v.args x k).length 1 false ((fR v.args x k).map i64)]⟩) (by omega) (by simp[fR]) (by
    intro k h K
    have w1:=aA h (by omega)
    obtain⟨y,hy,dV,_⟩:=ay h
    have hp:=dQ v.args x k
    by_cases e:x=y
    ·have h1:((fR v.args x k).length+1)*8≤1099511627776:=by omega
     have h2:(fR v.args x k).length+1≤1099511627776:=by omega
     subst e
     simp[aa,h,hy,w1,fR,dV,h1,h2]
    ·simp[aa,h,hy,w1,fR,dV,e]) (by simp)]
 simp[bo]
theorem aaY(N:Nat)(hN:1≤N)(v:View)(i b:Int)(h0:0≤i)(h1:i<v.ins.opds.length):
  R N 144 [ag (aB v),ai i,ai b] []=some (ab (aj (decide ((nth v.ins.opds i).kind=1)) (cE (decide (b=-1)) (decide ((nth v.ins.opds i).bank=b)))),[]):=by
 have aa:rows 144={}:=rfl
 obtain⟨n,rfl⟩:=up N
 rw[aE 144 Tryz.func144 rfl rfl]
 obtain⟨x,h2,hx,bI,_⟩:=aR h0 h1
 rw[bI]
 simp[aa,h0,h1,h2,hx]
theorem f_{a:Int}(h1:0≤a)(h2:a≤18446744073709551615):IntKind.u64.wrap a=a:=by
 simp only[IntKind.wrap,IntKind.bits,IntKind.signed,Bool.false_and,Bool.false_eq_true,if_false]
 omega
theorem iY(a:Int):IntKind.u64.wrap a=a % 18446744073709551616:=by
 simp only[IntKind.wrap,IntKind.bits,IntKind.signed,Bool.false_and,Bool.false_eq_true,if_false]
 rfl
theorem uQ{x:Int}{k:Nat}(h0:0≤x)(h1:x<18446744073709551616)(hk:k≤64):mg .u64 x (2^k-1)=x % 2^k:=by
 obtain⟨n,rfl⟩:=Int.eq_ofNat_of_zero_le h0
 have hn:n<18446744073709551616:=by omega
 have hp:2^k≤2^64:=Nat.pow_le_pow_right (by decide) hk
 have Mu:0<2^k:=Nat.pow_pos (by decide)
 have e:((2:Int)^k-1)=((2^k-1:Nat):Int):=by
  rw[Int.ofNat_sub Mu];simp
 have e3:(2:Int)^k=((2^k:Nat):Int):=by simp
 rw[e]
 show IntKind.u64.wrap ((BitVec.ofInt 64 (n:Int)&&&BitVec.ofInt 64 ((2^k-1:Nat):Int)).toNat:Int)=_
 have e2:(BitVec.ofInt 64 (n:Int)&&&BitVec.ofInt 64 ((2^k-1:Nat):Int)).toNat=n % 2^k:=by
  rw[BitVec.toNat_and]
  simp only[BitVec.ofInt_natCast,BitVec.toNat_ofNat]
  rw[Nat.mod_eq_of_lt (show n<2^64 from hn),Nat.mod_eq_of_lt (show 2^k-1<2^64 by omega),Nat.and_two_pow_sub_one_eq_mod]
 rw[e2,e3,←Int.natCast_emod]
 have:n % 2^k<2^k:=Nat.mod_lt _ Mu
 exact f_ (by omega) (by have:(2:Nat)^64=18446744073709551616:=by decide
                         omega)
def nh(w:Int)(n:ByteArray):Tr:=.mk 2 w 0 n 0 true []
def bD(w x:Int):Tr:=.mk 1 w x ⟨#[]⟩ 0 true []
def iR(k w:Int)(l:List Tr):Tr:=.mk k w 0 ⟨#[]⟩ 0 false l
def Hy(m:aw)(o:n8):Int:=if o.kind=1 then cy m o.bank else m.address
def Bf(m:aw)(o:n8):Prop:=o.kind=1→0≤o.bank∧o.bank<(m.banks.length:Int)
theorem Dt(N:Nat)(hN:2≤N)(v:View)(hw:qa v.p.m)(i:Int)(h0:0≤i)(h1:i<v.ins.opds.length)(ho:Bf v.p.m (nth v.ins.opds i)):
  R N 149 [ag (aB v),ai i] []=some (.agg ((aC (nh (Hy v.p.m (nth v.ins.opds i)) (nth v.ins.opds i).name)).map .p),[]):=by
 have aa:rows 149={}:=rfl
 obtain⟨n,rfl⟩:=up N
 rw[aE 149 Tryz.func149 rfl rfl]
 obtain⟨x,h2,hx,bI,_⟩:=aR h0 h1
 rw[bI] at ho ⊢
 by_cases h:x.kind=1
 ·obtain⟨b0,b1⟩:=ho h
  have EC:=Bj n (by omega) hw b0 b1
  simp[aa,h0,h1,h2,hx,h,EC,Hy,ae,nh,Tr.kind,Tr.width,Tr.bits,Tr.name,Tr.low,Tr.z,Tr.sub]
 ·simp[aa,h0,h1,h2,hx,h,Hy,ae,nh,Tr.kind,Tr.width,Tr.bits,Tr.name,Tr.low,Tr.z,Tr.sub]
theorem BT(N:Nat)(hN:1≤N)(v:View)(c:Int)(ha:v.p.m.address=16∨v.p.m.address=32):
  R N 155 [ag (aB v),ai c] []=some (.agg ((aC (bD v.p.m.address (c % 2^v.p.m.address.toNat))).map .p),[]):=by
 have aa:rows 155={}:=rfl
 obtain⟨n,rfl⟩:=up N
 rw[aE 155 Tryz.func155 rfl rfl]
 have hr:0≤IntKind.u64.wrap c∧IntKind.u64.wrap c<18446744073709551616:=by rw[iY];omega
 have e16:IntKind.u64.wrap 16=16:=rfl
 have e32:IntKind.u64.wrap 32=32:=rfl
 have p16:IntKind.u64.wrap 65536=65536:=rfl
 have p32:IntKind.u64.wrap 4294967296=4294967296:=rfl
 have m16:IntKind.u64.wrap 65535=65535:=rfl
 have m32:IntKind.u64.wrap 4294967295=4294967295:=rfl
 rcases ha with ha|ha
 ·have a1:=uQ (k:=16) hr.1 hr.2 (by decide)
  have a2:IntKind.u64.wrap c % 65536=c % 65536:=by rw[iY];omega
  have a3:mg .u64 (IntKind.u64.wrap c) 65535=c % 65536:=a1.trans a2
  simp[aa,ha,e16,p16,m16,a3,ae,bD,Tr.kind,Tr.width,Tr.bits,Tr.name,Tr.low,Tr.z,Tr.sub]
 ·have a1:=uQ (k:=32) hr.1 hr.2 (by decide)
  have a2:IntKind.u64.wrap c % 4294967296=c % 4294967296:=by rw[iY];omega
  have a3:mg .u64 (IntKind.u64.wrap c) 4294967295=c % 4294967296:=a1.trans a2
  simp[aa,ha,e32,p32,m32,a3,ae,bD,Tr.kind,Tr.width,Tr.bits,Tr.name,Tr.low,Tr.z,Tr.sub]
theorem pH(N:Nat)(hN:1≤N)(v:View)(k:Int)(l:List Tr):
  R N 154 [ag (aB v),.p (.int .u8 k),.p (.sl (l.map aT))] []=some (ag (aC (iR k v.p.m.address l)),[]):=by
 have aa:rows 154={}:=rfl
 obtain⟨n,rfl⟩:=up N
 rw[aE 154 Tryz.func154 rfl rfl]
 simp[aa,ae,iR,Tr.kind,Tr.width,Tr.bits,Tr.name,Tr.low,Tr.z,Tr.sub]
theorem Dc(N:Nat)(a b:List Tr)(z z':Bool)(hN:a.length+1<N)(hl:a.length≤1000)
  (hg:∀M,N-1=M→∀x∈a,∀y∈b,R M 148 [ag (aC x),ag (aC y)] []=some (ab (aI x y),[])):
  R N 173 [.p (fg z (a.map aT)),.p (fg z' (b.map aT)),.p (.fn 148 [])] []=some (ab (iS a b),[]):=by
 have aa:rows 173=_:=ZS.eq_1
 obtain⟨n,rfl⟩:=up N
 rw[aE 173 Tryz.func173 rfl rfl]
 have hg:=hg n rfl
 by_cases he:a.length=b.length
 case neg=>
  have h2:=tQ a b he
  simp[aa,he,h2,Int.ofNat_inj]
 by_cases h0:a=[]
 ·subst h0
  have:b=[]:=List.eq_nil_of_length_eq_zero he.symm
  subst this
  obtain⟨n,rfl⟩:∃k,n=k+1:=⟨n-1,by simp at hN;omega⟩
  simp[aa,iS,iter,BH]
 have h1:fg z (a.map aT)=.sl (a.map aT):=kF _ _ (by simpa using h0)
 have h2:fg z' (b.map aT)=.sl (b.map aT):=kF _ _ (by
  intro h
  have:=congrArg List.length h
  simp at this
  exact h0 (List.eq_nil_of_length_eq_zero (by rw[he,this];rfl)))
 rw[h1,h2]
 simp[aa,he]
 rw[acI a.length (fun k=> !aI (nth a (k:Int)) (nth b (k:Int))) (fun k=>⟨[(1,.p (.sl (b.map aT))),(2,.p (.fn 148 [])),(6,ab false),(15,.p (.sl (a.map aT))),(16,ai a.length),(17,ai k)],[]⟩)
  (fun k=>(.ret,⟨[(1,.p (.sl (b.map aT))),(2,.p (.fn 148 [])),(6,ab false),(15,.p (.sl (a.map aT))),(16,ai a.length),(17,ai k)],[]⟩)) (by omega) (by simp[he]) (by
    intro k h K
    have w1:=aA h (by omega)
    obtain⟨x,hx,bI,hm⟩:=ay h
    have h':k<b.length:=by omega
    obtain⟨y,hy,dV,hn⟩:=ay h'
    have hs:=hg x hm y hn
    rw[bI,dV]
    cases e:aI x y<;>rw[e] at hs<;>simp[aa,h,h',hx,hy,w1,hs]) (by simp)]
 rw[tR a b he]
 rcases ao (fun k:Nat=> !aI (nth a (k:Int)) (nth b (k:Int))) (List.range a.length) with⟨e1,e2,_⟩|⟨i,e1,e2,_⟩<;>simp only[e1,e2]<;>simp
theorem iM:∀(d N:Nat) (a b:Tr),Dp d a→2*d+1004≤N→R N 148 [ag (aC a),ag (aC b)] []=some (ab (aI a b),[]):=by
 intro d
 induction d with
 |zero=>intro N a b h;exact h.elim
 |succ d ih=>
  intro N a b ha hN
  have he:=Dc (N-1) a.sub b.sub a.z b.z (by have:=ha.1;omega) ha.1 (fun M hM x hx y hy=>ih M x y (ha.2 x hx) (by omega))
  have aa:rows 148={}:=rfl
  obtain⟨n,rfl⟩:=up N
  rw[aE 148 Tryz.func148 rfl rfl]
  rw[oh]
  rw[Nat.add_sub_cancel] at he
  simp[aa,he,mr]
theorem c_:∀(d N:Nat) (a b:Tr),Dp d a→d+1004≤N→R N 103 [ag (aC a),ag (aC b)] []=some (ab (aI a b),[]):=by
 intro d
 induction d with
 |zero=>intro N a b h;exact h.elim
 |succ d ih=>
  intro N a b ha hN
  have hl:=ha.1
  have aa:rows 103=_:=aah.eq_1
  obtain⟨n,rfl⟩:=up N
  rw[aE 103 Tryz.func103 rfl rfl]
  have ih:∀x∈a.sub,∀y∈b.sub,R n 103 [ag (aC x),ag (aC y)] []=some (ab (aI x y),[]):=fun x hx y hy=>ih n x y (ha.2 x hx) (by omega)
  rw[oh]
  by_cases hc:mr a b=true∧a.sub.length=b.sub.length
  case neg=>
   have hf:aj (mr a b) (iS a.sub b.sub)=false:=by
    cases hh:mr a b
    ·rfl
    ·rw[tQ _ _ fun e=>hc ⟨hh,e⟩];rfl
   have hg:cE (!mr a b) (!decide ((a.sub.length:Int)=b.sub.length))=true:=by
    cases hh:mr a b
    ·rfl
    ·have:a.sub.length≠b.sub.length:=fun e=>hc ⟨hh,e⟩
     simp[Int.ofNat_inj,this,cE]
   simp[mr] at hg
   simp[aa,hg,hf]
  obtain⟨hh,he⟩:=hc
  have hg:=hh
  simp[mr] at hg
  rw[hh]
  simp[aa,hg,he]
  rw[acI a.sub.length (fun k=> !aI (nth a.sub (k:Int)) (nth b.sub (k:Int))) (fun k=>⟨[(2,.ref 0 0),(3,.ref 1 0),(4,ab false),(5,ai k)],[bx (aC a),bx (aC b)]⟩)
   (fun k=>(.ret,⟨[(2,.ref 0 0),(3,.ref 1 0),(4,ab false),(5,ai k)],[bx (aC a),bx (aC b)]⟩)) (by omega) (by simp) (by
     intro k h K
     have w1:=aA h (by omega)
     obtain⟨x,hx,bI,hm⟩:=ay h
     have h':k<b.sub.length:=by omega
     obtain⟨y,hy,dV,hn⟩:=ay h'
     have hs:=ih x hm y hn
     have e1:fg a.z (a.sub.map aT)=.sl (a.sub.map aT):=kF _ _ (by intro e;rw[List.map_eq_nil_iff] at e;rw[e] at h;cases h)
     have e2:fg b.z (b.sub.map aT)=.sl (b.sub.map aT):=kF _ _ (by intro e;rw[List.map_eq_nil_iff] at e;rw[e] at h';cases h')
     rw[bI,dV]
     cases e:aI x y<;>rw[e] at hs<;>simp[aa,h,h',hx,hy,w1,hs,e1,e2]) (by simp)]
  rw[tR a.sub b.sub he]
  rcases ao (fun k:Nat=> !aI (nth a.sub (k:Int)) (nth b.sub (k:Int))) (List.range a.sub.length) with⟨e1,e2,_⟩|⟨i,e1,e2,_⟩<;>simp only[e1,e2]<;>simp
end Go.En.V
