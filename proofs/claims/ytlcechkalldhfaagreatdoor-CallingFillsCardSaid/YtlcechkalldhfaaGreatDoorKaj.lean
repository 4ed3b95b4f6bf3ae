/- Part of the proof of CallingFills: engine, contracts or law, joined by a program from the texts X19 X20 X21 X22 X23 X24 X25 X26 X27 X28 X29 X30 X31 X32 X33 X34 X35 X36 X37 X51 X52. -/
import Derived.Test.YtlcechkalldhfaaGreatDoorKae
import Derived.Test.YtlcechkalldhfaaGreatDoorKaf
set_option linter.all false
set_option maxRecDepth 100000
set_option maxHeartbeats 4000000
namespace Go.En.V
open Go.Proofs
theorem yo{α:Type}(p:List ByteArray→α→Bool)(name:α→ByteArray)(L:List ByteArray→List α→Bool)(h0:∀s,L s []=true)(h1:∀s x r,L s (x::r)=(p s x&&L (s++[name x]) r)){k:Nat}{x:α}:
  ∀{seen:List ByteArray} {l:List α},k<l.length→(∀h:k<l.length,l[k]=x)→L seen (l.take (k+1))=(L seen (l.take k)&&p (seen++(l.take k).map name) x):=by
 induction k with
 |zero=>
  intro seen l h hx
  match l,h with
  |y::r,h=>have:=hx h;simp at this;subst this;simp[h0,h1]
 |succ k ih=>
  intro seen l h hx
  match l,h with
  |y::r,h=>
   simp only[List.take_succ_cons,h1,List.map_cons]
   rw[ih (by simpa using h) (fun h=>by have:=hx (by simpa using h);simpa using this),←Bool.and_assoc]
   simp
def kE:List ByteArray→List FY→Bool
 |_,[]=>true
 |seen,r::l=>(cW seen r.name&&cq r.count 1 4)&&kE (seen++[r.name]) l
theorem LR(N:Nat)(hN:1000≤N)(m:aw)(ok:Bool)(hr:m.units.length≤100):R N 47 [.ref 0 0] [bx (bg ⟨m,ok⟩)]=some (.tup [],[.box ((bg ⟨m,ok&&(decide (0<m.units.length)&&kE [] m.units)⟩).map .p)]):=by
 have aa:rows 47=_:=YN.eq_1
 obtain⟨n,rfl⟩:=up N
 rw[aE 47 Tryz.func47 rfl rfl]
 have m1:=sA (N:=n) (by omega) m
 have m2:=Aq (N:=n) (by omega) m
 have w:=iZ n (by omega)
 simp[aa,m1]
 generalize aV:aj ok (decide (0<m.units.length))=BS
 rw[abC m.units.length (fun k=>⟨[(0,.ref 0 0),(2,.ref 1 0),(19,.p (.sl (m.units.map CJ))),(20,ai m.units.length),(21,ai k)],
    [bx (bg ⟨m,BS&&kE [] (m.units.take k)⟩),.box [.arr 2 k 0 k],.arr k 1 false (((m.units.take k).map FY.name).map PV.str)]⟩) (by omega) (by simp[aa,kE]) (by
    intro k h K
    have w1:=aA h (by omega)
    obtain⟨x,hx,_,hm⟩:=ay h
    have hf:=oS n ((m.units.take k).map FY.name) (by simp;omega) (by simp;omega) x.name false k
    have hlen:min k m.units.length=k:=by omega
    simp only[qR,List.length_map,List.length_take,hlen] at hf
    rw[yo (fun s (x:FY)=>cW s x.name&&cq x.count 1 4) FY.name kE (fun _=>rfl) (fun _ _ _=>rfl) h hx,gD FY.name h hx,←Bool.and_assoc]
    generalize hB:(BS&&kE [] (m.units.take k))=mB
    have jT:((m.units.take k).map FY.name).length=k:=by simp;omega
    generalize (m.units.take k).map FY.name=seen at hf jT ⊢
    rw[List.nil_append]
    have e:(mB&&(cW seen x.name&&cq x.count 1 4))=aj (aj mB (cW seen x.name)) (aj (decide (1≤x.count)) (decide (x.count≤4))):=by
     simp[cq,ak,Bool.and_assoc]
    rw[e]
    simp[aa,h,hx,hf,w,m1,m2,w1,jT]) (by simp[aa])]
 simp[←aV,ak,Bool.and_assoc]
def uO(m:aw)(b:qw)(j:Nat):Bool:=
 cq (nth b.regs j) 0 (m.regs.length-1)&&(!((b.regs.take j).any fun x=>decide (nth b.regs j=x))&&decide ((nth m.regs (nth b.regs j)).width=(nth m.regs (nth b.regs 0)).width))
def yV(m:aw)(seen:List ByteArray)(b:qw):Bool:=(cW seen b.name&&decide (0<b.regs.length))&&(List.range b.regs.length).all (uO m b)
def iI(m:aw):List ByteArray→List qw→Bool
 |_,[]=>true
 |seen,r::l=>yV m seen r&&iI m (seen++[r.name]) l
theorem LZ(N:Nat)(hN:1000≤N)(m:aw)(ok:Bool)(hr:m.regs.length≤100)(hb:m.banks.length≤100)(hbr:∀b∈m.banks,b.regs.length≤100):R N 46 [.ref 0 0] [bx (bg ⟨m,ok⟩)]=some (.tup [],[bx (bg ⟨m,ok&&iI m [] m.banks⟩)]):=by
 have aa:rows 46=_:=YO.eq_1
 obtain⟨n,rfl⟩:=up N
 rw[aE 46 Tryz.func46 rfl rfl]
 have m1:=sA (N:=n) (by omega) m
 have m2:=Aq (N:=n) (by omega) m
 have w:=iZ n (by omega)
 have w3:IntKind.i64.wrap ((m.regs.length:Int)-1)=(m.regs.length:Int)-1:=wrap64 (by omega) (by omega)
 simp[aa,m1]
 rw[abC m.banks.length (fun k=>⟨[(0,.ref 0 0),(2,.ref 1 0),(11,.p (.sl (m.banks.map n4))),(12,ai m.banks.length),(13,ai k)],
    [bx (bg ⟨m,ok&&iI m [] (m.banks.take k)⟩),.box [.arr 2 k 0 k],.arr k 1 false (((m.banks.take k).map qw.name).map PV.str)]⟩) (by omega) (by simp[aa,iI]) (by
    intro k h K
    have w1:=aA h (by omega)
    obtain⟨b,hx,_,hm⟩:=ay h
    have MA:=hbr b hm
    have hf:=oS n ((m.banks.take k).map qw.name) (by simp;omega) (by simp;omega) b.name false k
    have hlen:min k m.banks.length=k:=by omega
    simp only[qR,List.length_map,List.length_take,hlen] at hf
    rw[yo (yV m) qw.name (iI m) (fun _=>rfl) (fun _ _ _=>rfl) h hx,gD qw.name h hx,←Bool.and_assoc]
    generalize hB:(ok&&iI m [] (m.banks.take k))=mB
    have jT:((m.banks.take k).map qw.name).length=k:=by simp;omega
    generalize (m.banks.take k).map qw.name=seen at hf jT ⊢
    rw[List.nil_append]
    simp[aa,h,hx,hf,w,m1,m2,w1,jT]
    generalize Ug:aj (aj mB (cW seen b.name)) (decide (0<b.regs.length))=rN
    rw[av b.regs.length (fun j=>⟨[(0,.ref 0 0),(2,.ref 1 0),(4,.ref 3 0),(11,.p (.sl (m.banks.map n4))),(12,ai m.banks.length),(13,ai k),(28,.p (ints b.regs)),(29,ai b.regs.length),(30,ai j)],
       [bx (bg ⟨m,rN&&(List.range j).all (uO m b)⟩),.box [.arr 2 (k+1) 0 (k+1)],.arr (k+1) 1 false ((seen++[b.name]).map PV.str),bx (fJ b)]⟩)
     (.exit 2,⟨[(0,.ref 0 0),(2,.ref 1 0),(4,.ref 3 0),(11,.p (.sl (m.banks.map n4))),(12,ai m.banks.length),(13,ai k),(28,.p (ints b.regs)),(29,ai b.regs.length),(30,ai b.regs.length)],
       [bx (bg ⟨m,rN&&(List.range b.regs.length).all (uO m b)⟩),.box [.arr 2 (k+1) 0 (k+1)],.arr (k+1) 1 false ((seen++[b.name]).map PV.str),bx (fJ b)]⟩) (by omega) (by simp[aa]) (by
       intro j hj K
       have v1:=aA hj (by omega)
       obtain⟨r,mi,zD,_⟩:=ay hj
       have hc:R n 40 [.p (.sl ((b.regs.map i64).take j)),ai r] []=some (ab ((b.regs.take j).any fun x=>decide (r=x)),[]):=by
        rw[←List.map_take];exact fj n (b.regs.take j) r (by simp;omega) (by simp;omega)
       have iO:j≤b.regs.length:=by omega
       have zq:uO m b j=(aj (aj (decide (0≤r)) (decide (r≤(m.regs.length:Int)-1))) (!((b.regs.take j).any fun x=>decide (r=x)))&&decide ((nth m.regs r).width=(nth m.regs (nth b.regs 0)).width)):=by
        simp only[uO,zD,cq,ak,Bool.and_assoc]
       rw[List.range_succ,List.all_append,←Bool.and_assoc]
       simp only[List.all_cons,List.all_nil,Bool.and_true,zq]
       generalize hB:(rN&&(List.range j).all (uO m b))=Rj
       generalize hcv:((b.regs.take j).any fun x=>decide (r=x))=cv at hc ⊢
       by_cases hq:Rj=true∧(0≤r∧r≤(m.regs.length:Int)-1)∧cv=false
       ·obtain⟨q1,⟨q2,q3⟩,q4⟩:=hq
        have q5:r<(m.regs.length:Int):=by omega
        obtain⟨y,g2,hy,dV,_⟩:=aR q2 q5
        subst q1 q4
        have q6:0≤nth b.regs 0∧nth b.regs 0≤(m.regs.length:Int)-1:=by
         by_cases QV:j=0
         ·subst QV
          have zD:nth b.regs 0=r:=zD
          omega
         ·have:=(Bool.and_eq_true _ _ ▸ hB).2
          have:=List.all_eq_true.1 this 0 (by simp;omega)
          simp[uO,cq,ak] at this
          exact this
        have Un:0<b.regs.length:=by omega
        obtain⟨r0,ayo,acG,_⟩:=ay Un
        have acG:nth b.regs 0=r0:=acG
        rw[acG] at q6 ⊢
        have q7:r0<(m.regs.length:Int):=by omega
        obtain⟨z,g3,hz,Cd,_⟩:=aR q6.1 q7
        rw[dV,Cd]
        simp[aa,hj,iO,mi,w,m1,m2,v1,hc,w3,q2,q3,q5,g2,hy,Un,ayo,q6.1,q7,g3,hz]
       ·have e:aj (aj Rj (aj (decide (0≤r)) (decide (r≤(m.regs.length:Int)-1)))) (!cv)=false:=by
         cases Rj<;>cases cv<;>simp[ak] at hq ⊢<;>first|exact hq|trivial
        have e2:(Rj&&(aj (aj (decide (0≤r)) (decide (r≤(m.regs.length:Int)-1))) (!cv)&&decide ((nth m.regs r).width=(nth m.regs (nth b.regs 0)).width)))=false:=by
         rw[←Bool.and_assoc];simp only[ak] at e ⊢;rw[←Bool.and_assoc,e];rfl
        rw[e2]
        simp[aa,hj,iO,mi,w,m1,m2,v1,hc,w3,e]) (by simp[aa])]
    have e:(mB&&yV m seen b)=(rN&&(List.range b.regs.length).all (uO m b)):=by
     rw[←Ug];simp[yV,ak,Bool.and_assoc]
    rw[e]
    simp[aa,w1]) (by simp[aa])]
 simp
def Bs:List rR→Int
 |[]=>0
 |p::r=>p.len+Bs r
def bB(l:List rR):Int:=l.foldl (fun a p=>IntKind.i64.wrap (a+p.len)) 0
theorem Qc(N:Nat)(o:n8)(hN:o.pieces.length+1<N)(hl:o.pieces.length≤1000):R N 70 [ag (dI o)] []=some (ai (bB o.pieces),[]):=by
 have aa:rows 70=_:=Yz.eq_1
 obtain⟨n,rfl⟩:=up N
 rw[aE 70 Tryz.func70 rfl rfl]
 simp[aa]
 rw[abC o.pieces.length (fun k=>⟨[(2,ai (bB (o.pieces.take k))),(6,.p (.sl (o.pieces.map vS))),(7,ai o.pieces.length),(8,ai k)],[bx (dI o)]⟩) (by omega) (by simp[aa,bB]) (by
    intro k h K
    have w1:=aA h (by omega)
    obtain⟨x,hx,_,hm⟩:=ay h
    have e:bB (o.pieces.take (k+1))=IntKind.i64.wrap (bB (o.pieces.take k)+x.len):=by
     unfold bB;rw[List.take_succ_eq_append_getElem h,hx h,List.foldl_append];rfl
    simp[aa,h,hx,w1,e]) (by simp[aa])]
 simp
def iP(m:aw)(o:n8):Int:=if o.kind=1 then cy m o.bank else m.address
theorem IQ(N:Nat)(hN:1≤N)(m:aw)(o:n8)(h:o.kind=1→(0≤o.bank∧o.bank<m.banks.length)∧0<(nth m.banks o.bank).regs.length∧0≤nth (nth m.banks o.bank).regs 0∧nth (nth m.banks o.bank).regs 0<m.regs.length):
  R N 114 [ag (ah m),ag (dI o)] []=some (ai (iP m o),[]):=by
 have aa:rows 114={}:=rfl
 obtain⟨n,rfl⟩:=up N
 rw[aE 114 Tryz.func114 rfl rfl]
 by_cases hk:o.kind=1
 ·obtain⟨⟨h0,h1⟩,h2,h3,h4⟩:=h hk
  obtain⟨b,h5,hx,bI,_⟩:=aR h0 h1
  rw[bI] at h2 h3 h4
  obtain⟨y,hy,dV,_⟩:=ay (k:=0) h2
  have dV:nth b.regs 0=y:=dV
  rw[dV] at h3 h4
  obtain⟨z,h6,hz,Cd,_⟩:=aR h3 h4
  have e:iP m o=z.width:=by simp[iP,hk,cy,bI,dV,Cd]
  rw[e]
  simp[aa,hk,h0,h1,h5,hx,hy,h2,h3,h4,h6,hz]
 ·simp[aa,hk,iP]
def cj(t:Tr):Bool:= !(cE (!aj (aj (aj (aj (decide (t.kind=0)) (decide (t.width=0))) (decide (t.bits=0))) (cc t.name ⟨#[]⟩)) (decide (t.low=0))) (decide (0<t.sub.length)))
theorem BU(N:Nat)(l:List Tr)(hN:l.length+1<N)(hl:l.length≤1000):R N 116 [.p (.sl (l.map aT))] []=some (ab (l.all cj),[]):=by
 have aa:rows 116=_:=Z_.eq_1
 obtain⟨n,rfl⟩:=up N
 rw[aE 116 Tryz.func116 rfl rfl]
 simp[aa]
 rw[abD l (fun t=> !cj t) (fun k=>⟨[(2,ab false),(5,.p (.sl (l.map aT))),(6,ai l.length),(7,ai k)],[]⟩)
  (fun k=>(.ret,⟨[(2,ab false),(5,.p (.sl (l.map aT))),(6,ai l.length),(7,ai k)],[]⟩)) (by omega) (by simp) (by
    intro k x h hx _ hm K
    have w1:=aA h (by omega)
    cases hp:cj x
    ·have hq:=hp;unfold cj at hq
     simp only[Bool.not_eq_false'] at hq
     simp[aa,h,hx,hp,hq,w1]
    ·have hq:=hp;unfold cj at hq
     simp only[Bool.not_eq_true'] at hq
     simp[aa,h,hx,hp,hq,w1]) (by simp)]
 have e:l.all cj= !(l.any fun t=> !cj t):=by rw[Bool.eq_iff_iff];simp
 rw[e]
 rcases ao (fun t:Tr=> !cj t) l with⟨e1,e2,_⟩|⟨i,e1,e2,_⟩<;>simp[e1,e2]
theorem anW{N:Nat}(hN:7≤N)(m:aw)(ok a b c d e:Bool):R N 43 [.ref 0 0,.p (.sl [.bool a,.bool b,.bool c,.bool d,.bool e])] [bx (bg ⟨m,ok⟩)]=some (.tup [],[.box ((bg ⟨m,aj (aj (aj (aj (aj ok a) b) c) d) e⟩).map .p)]):=
 pJ N m ok [a,b,c,d,e] (by simp;omega) (by simp)
def qK(word:Int)(p:rR):Bool:=
 cq p.len 1 (IntKind.i64.wrap (8*word))&&(decide (0≤p.pos)&&decide (p.pos≤IntKind.i64.wrap (IntKind.i64.wrap (8*word)-p.len)))
def vJ(p:rR):Int:=IntKind.u64.wrap (br p.len*2^(min p.pos.toNat 64))
def cG(l:List rR):Int:=l.foldl (fun t p=>KY .u64 t (vJ p)) 0
def eO(word:Int)(l:List rR)(k:Nat):Bool:=
 (List.range k).all fun j=>qK word (nth l j)&&decide (mg .u64 (cG (l.take j)) (vJ (nth l j))=0)
def cY(m:aw)(s:dh)(i:Nat)(o:n8):Bool:=
 if o.kind=1 then
  (cq o.bank 0 (m.banks.length-1)&&decide (o.scale=0))&&
    (if o.tied=-1 then decide (0<bB o.pieces)&&(decide (6<bB o.pieces)||decide (((nth m.banks o.bank).regs.length:Int)≤IntKind.i64.wrap (1*2^(min (bB o.pieces).toNat 64))))
    else(cq o.tied 0 (i-1)&&decide ((o.pieces.length:Int)=0))&&
     (decide ((nth s.opds o.tied).kind=1)&&(decide ((nth s.opds o.tied).bank=o.bank)&&decide ((nth s.opds o.tied).tied=-1))))
 else if o.kind=2∨o.kind=3∨o.kind=4 then
  (decide (o.bank=0)&&(decide (o.tied=-1)&&(cq o.scale 0 3&&(decide (0<bB o.pieces)&&decide (IntKind.i64.wrap (bB o.pieces+o.scale)≤m.address)))))
 else false
theorem Ic{l:List rR}(hl:l.length≤1000)(h:∀p∈l,0≤p.len∧p.len≤64):bB l=Bs l∧0≤Bs l∧Bs l≤64*l.length:=by
 have key:∀(l:List rR) (a:Int),0≤a→a+64*l.length≤100000→(∀p∈l,0≤p.len∧p.len≤64)→l.foldl (fun a p=>IntKind.i64.wrap (a+p.len)) a=a+Bs l∧0≤Bs l∧Bs l≤64*l.length:=by
  intro l
  induction l with
  |nil=>intro a _ _ _;simp[Bs]
  |cons p r ih=>
   intro a h0 h1 h2
   have hp:=h2 p (by simp)
   simp only[List.length_cons] at h1 ⊢
   push_cast at h1 ⊢
   have w:IntKind.i64.wrap (a+p.len)=a+p.len:=wrap64 (by omega) (by omega)
   have:=ih (a+p.len) (by omega) (by omega) (fun q hq=>h2 q (by simp[hq]))
   simp only[List.foldl_cons,w,Bs]
   rw[this.1]
   omega
 have:=key l 0 (by omega) (by omega) h
 unfold bB
 omega
theorem KT{word:Int}(h1:1≤word)(h2:word≤4){l:List rR}(h:eO word l l.length=true):∀p∈l,1≤p.len∧p.len≤32:=by
 intro p hp
 obtain⟨j,hj,rfl⟩:=List.getElem_of_mem hp
 have:=List.all_eq_true.1 h j (List.mem_range.2 hj)
 have w:IntKind.i64.wrap (8*word)=8*word:=wrap64 (by omega) (by omega)
 simp[qK,cq,ak,w,bq _ _ hj] at this
 omega
theorem Hx(N:Nat)(hN:1000≤N)(m:aw)(ok:Bool)(s:dh)(i:Nat)(hi:i<s.opds.length)(hp:∀o∈s.opds,o.pieces.length≤100)(hb:m.banks.length≤1000)(hs:s.opds.length≤1000)(hw:ok=true→1≤m.word∧m.word≤4):
  ∃t,R N 77 [.ref 0 0,ag (aU s),ai i] [bx (bg ⟨m,ok⟩)]=
   some (.p (.int .u64 t),[.box ((bg ⟨m,(ok&&eO m.word (nth s.opds i).pieces (nth s.opds i).pieces.length)&&cY m s i (nth s.opds i)⟩).map .p)])∧
   ((ok&&eO m.word (nth s.opds i).pieces (nth s.opds i).pieces.length)&&cY m s i (nth s.opds i)=true→t=cG (nth s.opds i).pieces):=by
 have aa:rows 77=_:=Yv.eq_1
 obtain⟨n,rfl⟩:=up N
 rw[aE 77 Tryz.func77 rfl rfl]
 have m1:∀ok a,_:=sA (N:=n) (by omega) m
 have m2:∀ok a b,_:=Aq (N:=n) (by omega) m
 have m3:∀ok a b c,_:=O4 (N:=n) (by omega) m
 have m5:∀ok a b c d e,_:=anW (N:=n) (by omega) m
 have w:=iZ n (by omega)
 obtain⟨o,ho,lM,hom⟩:=ay hi
 have zn:=hp o hom
 have zF:=Qc n o (by omega) (by omega)
 rw[lM]
 simp[aa,hi,ho]
 obtain⟨pf,hpf⟩:∃pf:Nat→Bool,∀k,pf k= !((ok&&eO m.word o.pieces k)&&qK m.word (nth o.pieces k)):=⟨_,by intros;rfl⟩
 rw[acI o.pieces.length pf
  (fun k=>⟨[(0,.ref 0 0),(2,ai i),(4,.ref 1 0),(6,.p (.int .u64 (cG (o.pieces.take k)))),(7,.ref 2 0),(20,.p (.sl (o.pieces.map vS))),(21,ai o.pieces.length),(22,ai k)],[bx (bg ⟨m,ok&&eO m.word o.pieces k⟩),bx (aU s),bx (dI o)]⟩)
  (fun k=>(.ret,⟨[(0,.ref 0 0),(2,ai i),(4,.ref 1 0),(6,.p (.int .u64 0)),(7,.ref 2 0),(20,.p (.sl (o.pieces.map vS))),(21,ai o.pieces.length),(22,ai k)],[bx (bg ⟨m,false⟩),bx (aU s),bx (dI o)]⟩))
  (by omega) (by simp[aa,cG,eO]) (by
    intro k h K
    have w1:=aA h (by omega)
    obtain⟨p,hx,bI,hm⟩:=ay h
    have hk:=jr n (by omega) p.len
    have e1:eO m.word o.pieces (k+1)=(eO m.word o.pieces k&&(qK m.word p&&decide (mg .u64 (cG (o.pieces.take k)) (vJ p)=0))):=by
     unfold eO;rw[List.range_succ,List.all_append];simp[bI]
    have e2:cG (o.pieces.take (k+1))=KY .u64 (cG (o.pieces.take k)) (vJ p):=by
     unfold cG;rw[List.take_succ_eq_append_getElem h,hx h,List.foldl_append];rfl
    rw[hpf,bI,e1,e2]
    generalize hB:(ok&&eO m.word o.pieces k)=mB
    generalize cG (o.pieces.take k)=tk
    have c0:aj (aj (aj mB (aj (decide (1≤p.len)) (decide (p.len≤IntKind.i64.wrap (8*m.word))))) (decide (0≤p.pos))) (decide (p.pos≤IntKind.i64.wrap (IntKind.i64.wrap (8*m.word)-p.len)))=(mB&&qK m.word p):=by
     simp[qK,cq,ak,Bool.and_assoc]
    cases hc:(mB&&qK m.word p)
    ·rw[hc] at c0
     simp[aa,h,hx,w1,m3,w,c0]
    ·have uy:=hc
     simp only[Bool.and_eq_true] at uy
     have e3:(ok&&(eO m.word o.pieces k&&(qK m.word p&&decide (mg .u64 tk (vJ p)=0))))=decide (mg .u64 tk (vJ p)=0):=by
      rw[←Bool.and_assoc,hB,uy.1,uy.2];rfl
     obtain⟨q0,q1⟩:=uy
     simp[qK,cq,ak] at q1
     obtain⟨⟨q1,q2⟩,q3,q4⟩:=q1
     rw[e3]
     subst q0
     simp[aa,h,hx,w1,m3,w,q1,q2,q3,q4,hk,m1,vJ]
     rfl) (by simp[aa])]
 have hd:∀k,k<o.pieces.length→pf k=true→(ok&&eO m.word o.pieces o.pieces.length)=false:=by
  intro k hk hq
  rw[hpf] at hq
  cases aV:ok
  ·rfl
  ·cases l6:eO m.word o.pieces o.pieces.length
   ·rfl
   ·exfalso
    have h1:eO m.word o.pieces k=true:=by
     apply List.all_eq_true.2
     intro j hj
     have iO:=List.mem_range.1 hj
     exact List.all_eq_true.1 l6 j (List.mem_range.2 (by omega))
    have h2:=List.all_eq_true.1 l6 k (List.mem_range.2 hk)
    simp only[Bool.and_eq_true] at h2
    rw[aV,h1,h2.1] at hq
    simp at hq
 rcases ao pf (List.range o.pieces.length) with⟨e1,e2,_⟩|⟨i',e1,e2,_⟩
 ·generalize PL:(ok&&eO m.word o.pieces o.pieces.length)=We
  have Nk:We=true→0≤bB o.pieces:=by
   intro h
   rw[←PL] at h
   simp only[Bool.and_eq_true] at h
   have hw:=hw h.1
   have:=KT hw.1 hw.2 h.2
   have:=Ic (l:=o.pieces) (by omega) (fun p hp=>by have:=this p hp;omega)
   omega
  have w2:IntKind.i64.wrap ((m.banks.length:Int)-1)=(m.banks.length:Int)-1:=wrap64 (by omega) (by omega)
  have w3:IntKind.i64.wrap ((i:Int)-1)=(i:Int)-1:=wrap64 (by omega) (by omega)
  by_cases k1:o.kind=1
  ·have c0:aj (aj We (aj (decide (0≤o.bank)) (decide (o.bank≤(m.banks.length:Int)-1)))) (decide (o.scale=0))=(We&&(cq o.bank 0 (m.banks.length-1)&&decide (o.scale=0))):=by
    simp[cq,ak,Bool.and_assoc]
   cases hc:(We&&(cq o.bank 0 (m.banks.length-1)&&decide (o.scale=0)))
   ·rw[hc] at c0
    have e:(We&&cY m s i o)=false:=by
     simp only[cY,k1,if_true]
     rw[←Bool.and_assoc,hc];rfl
    rw[e]
    refine⟨0, ?_,fun h1 h2 h3=>by rw[←PL,h1,h2,h3] at e;simp at e⟩
    simp[aa,e1,k1,m2,w,w2,c0]
   ·have uy:=hc
    rw[hc] at c0
    simp only[Bool.and_eq_true] at uy
    obtain⟨q0,q1,q2⟩:=uy
    simp[cq,ak] at q1 q2
    subst q0
    have q5:o.bank<(m.banks.length:Int):=by omega
    obtain⟨b,g2,zq,Cp,_⟩:=aR q1.1 q5
    by_cases k2:o.tied=-1
    ·have hF:0≤bB o.pieces:=Nk rfl
     have e:(true&&cY m s i o)=aj (decide (0<bB o.pieces)) (cE (decide (6<bB o.pieces)) (decide ((b.regs.length:Int)≤IntKind.i64.wrap (1*2^(min (bB o.pieces).toNat 64))))):=by
      simp[cY,k1,k2,Cp,cq,ak,aK,q1,q2]
     rw[e]
     refine⟨cG o.pieces, ?_,by intros;rfl⟩
     simp[aa,e1,k1,m2,w,w2,q1,q2,k2,zF,hF,q5,g2,zq]
    ·by_cases k3:(0≤o.tied∧o.tied≤(i:Int)-1)∧(o.pieces.length:Int)=0
     ·obtain⟨⟨r1,r2⟩,r3⟩:=k3
      have r4:o.tied<(s.opds.length:Int):=by omega
      obtain⟨u,g3,hu,nW,_⟩:=aR r1 r4
      have e:(true&&cY m s i o)=aj (aj (decide (u.kind=1)) (decide (u.bank=o.bank))) (decide (u.tied=-1)):=by
       simp[cY,k1,k2,nW,cq,ak,r1,r2,r3,q1,q2,Bool.and_assoc]
      rw[e]
      refine⟨cG o.pieces, ?_,by intros;rfl⟩
      simp[aa,e1,k1,m2,m3,w,w2,w3,q1,q2,k2,r1,r2,r3,r4,g3,hu]
     ·have c1:aj (aj (decide (0≤o.tied)) (decide (o.tied≤(i:Int)-1))) (decide ((o.pieces.length:Int)=0))=false:=by
       simp only[ak];simp only[←Bool.decide_and,decide_eq_false_iff_not];exact k3
      have e:(true&&cY m s i o)=false:=by
       simp only[ak] at c1
       simp only[cY,k1,k2,if_true,if_false,cq,ak,c1];simp
      rw[e]
      refine⟨cG o.pieces, ?_,by intros;rfl⟩
      have c2:=c1
      simp at c2
      simp[aa,e1,k1,m2,m3,w,w2,w3,q1,q2,k2,c1,c2]
  ·by_cases k2:o.kind=2∨o.kind=3∨o.kind=4
   ·have e:(We&&cY m s i o)=aj (aj (aj (aj (aj We (decide (o.bank=0))) (decide (o.tied=-1))) (aj (decide (0≤o.scale)) (decide (o.scale≤3)))) (decide (0<bB o.pieces))) (decide (IntKind.i64.wrap (bB o.pieces+o.scale)≤m.address)):=by
     simp only[cY,k1,k2,if_true,if_false,cq,ak,Bool.and_assoc]
    rw[e]
    refine⟨cG o.pieces, ?_,by intros;rfl⟩
    rcases k2 with k2|k2|k2<;>simp[aa,e1,k2,m5,w,zF]
   ·have e:(We&&cY m s i o)=false:=by
     simp only[cY,k1,k2,if_false,Bool.and_false]
    rw[e]
    simp only[not_or] at k2
    refine⟨cG o.pieces, ?_,by intros;rfl⟩
    simp[aa,e1,k1,k2.1,k2.2.1,k2.2.2,m1]
 ·have hx:∃k,k<o.pieces.length∧pf k=true:=by
   obtain⟨k,jG,jA⟩:=List.any_eq_true.1 e2
   exact⟨k,List.mem_range.1 jG,jA⟩
  obtain⟨k,jG,jA⟩:=hx
  have hf:=hd k jG jA
  rw[hf]
  refine⟨0, ?_,fun h1 h2 h3=>by rw[h1,h2] at hf;simp at hf⟩
  simp[aa,e1]
def qd:ByteArray:=⟨#[112,99]⟩
def oa(s:ByteArray):ByteArray:=⟨#[114,46]⟩++s
def uX(m:aw)(l:List pT):List (ByteArray×Int):=l.foldl (fun a r=>qD (oa r.name) r.width a) [(qd,m.address)]
def iQ(m:aw)(l:List n8):List (ByteArray×Int):=l.foldl (fun a o=>qD o.name (iP m o) a) (uX m m.regs)
def CY(m:aw)(o:n8):Prop:=o.kind=1→(0≤o.bank∧o.bank<m.banks.length)∧0<(nth m.banks o.bank).regs.length∧0≤nth (nth m.banks o.bank).regs 0∧nth (nth m.banks o.bank).regs 0<m.regs.length
theorem yn{α β:Type}(f:β→α→β)(b:β){l:List α}{k:Nat}{x:α}(h:k<l.length)(hx:∀h:k<l.length,l[k]=x):(l.take (k+1)).foldl f b=f ((l.take k).foldl f b) x:=by
 rw[List.take_succ_eq_append_getElem h,hx h,List.foldl_append];rfl
theorem Qr(N:Nat)(hN:1000≤N)(m:aw)(ok:Bool)(s:dh)(hr:m.regs.length≤500)(hs:s.opds.length≤500)(ho:∀o∈s.opds,CY m o)(hn:∀r∈m.regs,r.name.size≤1000000):
  R N 78 [.ref 0 0,ag (aU s)] [bx (bg ⟨m,ok⟩)]=some (.map 2,[bx (bg ⟨m,ok⟩),bx (aU s),.map (smap (iQ m s.opds))]):=by
 have aa:rows 78=_:=Yu.eq_1
 obtain⟨n,rfl⟩:=up N
 rw[aE 78 Tryz.func78 rfl rfl]
 simp[aa]
 rw[abC m.regs.length (fun k=>⟨[(0,.ref 0 0),(3,.ref 1 0),(5,.map 2),(21,.p (.sl (m.regs.map yN))),(22,ai m.regs.length),(23,ai k)],
    [bx (bg ⟨m,ok⟩),bx (aU s),.map (smap (uX m (m.regs.take k)))]⟩) (by omega) (by simp[aa,uX,qd]) (by
    intro k h K
    have w1:=aA h (by omega)
    obtain⟨x,hx,_,hm⟩:=ay h
    have e:uX m (m.regs.take (k+1))=qD (oa x.name) x.width (uX m (m.regs.take k)):=yn _ _ h hx
    rw[e]
    generalize uX m (m.regs.take k)=vs
    have EL:=hn x hm
    have w2:((⟨#[114,46]⟩:ByteArray).size:Int)+(x.name.size:Int)≤9223372036854775807:=by
     have:(⟨#[114,46]⟩:ByteArray).size=2:=rfl
     omega
    simp[aa,h,hx,w1,w2,oa]) (by simp[aa])]
 simp[aa]
 rw[av s.opds.length (fun k=>⟨[(0,.ref 0 0),(5,.map 2),(35,.p (.sl (s.opds.map l_))),(36,ai s.opds.length),(37,ai k)],
    [bx (bg ⟨m,ok⟩),bx (aU s),.map (smap (iQ m (s.opds.take k)))]⟩)
  (.exit 2,⟨[(0,.ref 0 0),(5,.map 2),(35,.p (.sl (s.opds.map l_))),(36,ai s.opds.length),(37,ai s.opds.length)],
    [bx (bg ⟨m,ok⟩),bx (aU s),.map (smap (iQ m s.opds))]⟩) (by omega) (by simp[aa,iQ]) (by
    intro k h K
    have w1:=aA h (by omega)
    obtain⟨x,hx,_,hm⟩:=ay h
    have e:iQ m (s.opds.take (k+1))=qD x.name (iP m x) (iQ m (s.opds.take k)):=yn _ _ h hx
    rw[e]
    generalize iQ m (s.opds.take k)=vs
    have hw:=IQ n (by omega) m x (ho x hm)
    simp[aa,h,hx,w1,hw]) (by simp[aa])]
 simp
def F1:Nat→Tr→Prop
 |0,_=>False
 |n+1,t=>(t.kind=24→0<t.sub.length)∧∀x∈t.sub,F1 n x
def Ay(m:aw)(vs:List (ByteArray×Int))(k:Int)(w:Int)(nm:ByteArray)(s:List Tr):Bool:=
 if k=2 then decide (gY nm vs=w) else if k=24 then decide ((nth s 0).width=m.address) else true
mutual
def dE(m:aw)(vs:List (ByteArray×Int)):Tr→Bool
 | .mk k w _ n _ _ s=>Ay m vs k w n s&&xR m vs s
def xR(m:aw)(vs:List (ByteArray×Int)):List Tr→Bool
 |[]=>true
 |x::r=>dE m vs x&&xR m vs r
end
theorem xQ(m:aw)(vs:List (ByteArray×Int))(t:Tr):dE m vs t=(Ay m vs t.kind t.width t.name t.sub&&xR m vs t.sub):=by cases t;rfl
theorem uc(m:aw)(vs:List (ByteArray×Int))(l:List Tr):xR m vs l=l.all (dE m vs):=by
 induction l with
 |nil=>rfl
 |cons x l ih=>simp[xR,ih]
theorem Lk(m:aw)(vs:List (ByteArray×Int)):∀(d N:Nat) (t:Tr) (ok:Bool),Dp d t→F1 d t→d+1010≤N→
  R N 139 [.ref 0 0,.map 1,ag (aC t)] [bx (bg ⟨m,ok⟩),.map (smap vs)]=some (.tup [],[bx (bg ⟨m,ok&&dE m vs t⟩),.map (smap vs)]):=by
 intro d
 induction d with
 |zero=>intro N t ok h;exact h.elim
 |succ d ih=>
  intro N t ok ht yf hN
  have hl:=ht.1
  have aa:rows 139=_:=Z4.eq_1
  obtain⟨n,rfl⟩:=up N
  rw[aE 139 Tryz.func139 rfl rfl]
  have m1:∀ok a,_:=sA (N:=n) (by omega) m
  by_cases k2:t.kind=2
  ·simp[aa,k2,m1]
   (rw[av t.sub.length (fun k=>⟨[(0,.ref 0 0),(1,.map 1),(39,.p (fg t.z (t.sub.map aT))),(40,ai t.sub.length),(41,ai k)],[.box ((bg ⟨m,(aj ok (decide (gY t.name vs=t.width)))&&(t.sub.take k).all (dE m vs)⟩).map .p),.map (smap vs),.box ((aC t).map .p)]⟩)
     (.exit 1,⟨[(0,.ref 0 0),(1,.map 1),(39,.p (fg t.z (t.sub.map aT))),(40,ai t.sub.length),(41,ai t.sub.length)],[.box ((bg ⟨m,(aj ok (decide (gY t.name vs=t.width)))&&t.sub.all (dE m vs)⟩).map .p),.map (smap vs),.box ((aC t).map .p)]⟩) (by omega) (by simp[aa]) (by
       intro k h K
       have w1:=aA h (by omega)
       obtain⟨y,hy,_,Np⟩:=ay h
       rw[lg (dE m vs) h hy,←Bool.and_assoc]
       have hi:=ih n y ((aj ok (decide (gY t.name vs=t.width)))&&(t.sub.take k).all (dE m vs)) (ht.2 y Np) (yf.2 y Np) (by omega)
       generalize hB:((aj ok (decide (gY t.name vs=t.width)))&&(t.sub.take k).all (dE m vs))=mB at hi ⊢
       have jT:fg t.z (t.sub.map aT)=.sl (t.sub.map aT):=bX t.z h
       try simp only[jT]
       simp[aa,h,hy,w1,hi]) (by simp[aa])])
   have e:(ok&&dE m vs t)=(aj ok (decide (gY t.name vs=t.width))&&t.sub.all (dE m vs)):=by
    rw[xQ,uc];simp[Ay,k2,ak,Bool.and_assoc]
   rw[e]
   simp
  ·by_cases AA:t.kind=24
   ·have hs:=yf.1 AA
    obtain⟨x,hx,bI,hm⟩:=ay hs
    have ax7:nth t.sub 0=x:=bI
    simp[aa,k2,AA,m1,hs,hx,bX t.z hs]
    (rw[av t.sub.length (fun k=>⟨[(0,.ref 0 0),(1,.map 1),(39,.p (.sl (t.sub.map aT))),(40,ai t.sub.length),(41,ai k)],[.box ((bg ⟨m,(aj ok (decide (x.width=m.address)))&&(t.sub.take k).all (dE m vs)⟩).map .p),.map (smap vs),.box ((aC t).map .p)]⟩)
      (.exit 1,⟨[(0,.ref 0 0),(1,.map 1),(39,.p (.sl (t.sub.map aT))),(40,ai t.sub.length),(41,ai t.sub.length)],[.box ((bg ⟨m,(aj ok (decide (x.width=m.address)))&&t.sub.all (dE m vs)⟩).map .p),.map (smap vs),.box ((aC t).map .p)]⟩) (by omega) (by simp[aa]) (by
        intro k h K
        have w1:=aA h (by omega)
        obtain⟨y,hy,_,Np⟩:=ay h
        rw[lg (dE m vs) h hy,←Bool.and_assoc]
        have hi:=ih n y ((aj ok (decide (x.width=m.address)))&&(t.sub.take k).all (dE m vs)) (ht.2 y Np) (yf.2 y Np) (by omega)
        generalize hB:((aj ok (decide (x.width=m.address)))&&(t.sub.take k).all (dE m vs))=mB at hi ⊢
        have jT:fg t.z (t.sub.map aT)=.sl (t.sub.map aT):=bX t.z h
        try simp only[jT]
        simp[aa,h,hy,w1,hi]) (by simp[aa])])
    have e:(ok&&dE m vs t)=(aj ok (decide (x.width=m.address))&&t.sub.all (dE m vs)):=by
     rw[xQ,uc];simp[Ay,k2,AA,ak,Bool.and_assoc,ax7]
    rw[e]
    simp
   ·simp[aa,k2,AA,m1]
    (rw[av t.sub.length (fun k=>⟨[(0,.ref 0 0),(1,.map 1),(39,.p (fg t.z (t.sub.map aT))),(40,ai t.sub.length),(41,ai k)],[.box ((bg ⟨m,ok&&(t.sub.take k).all (dE m vs)⟩).map .p),.map (smap vs),.box ((aC t).map .p)]⟩)
      (.exit 1,⟨[(0,.ref 0 0),(1,.map 1),(39,.p (fg t.z (t.sub.map aT))),(40,ai t.sub.length),(41,ai t.sub.length)],[.box ((bg ⟨m,ok&&t.sub.all (dE m vs)⟩).map .p),.map (smap vs),.box ((aC t).map .p)]⟩) (by omega) (by simp[aa]) (by
        intro k h K
        have w1:=aA h (by omega)
        obtain⟨y,hy,_,Np⟩:=ay h
        rw[lg (dE m vs) h hy,←Bool.and_assoc]
        have hi:=ih n y (ok&&(t.sub.take k).all (dE m vs)) (ht.2 y Np) (yf.2 y Np) (by omega)
        generalize hB:(ok&&(t.sub.take k).all (dE m vs))=mB at hi ⊢
        have jT:fg t.z (t.sub.map aT)=.sl (t.sub.map aT):=bX t.z h
        try simp only[jT]
        simp[aa,h,hy,w1,hi]) (by simp[aa])])
    have e:(ok&&dE m vs t)=(ok&&t.sub.all (dE m vs)):=by
     rw[xQ,uc];simp[Ay,k2,AA]
    rw[e]
    simp
def xi(s p:ByteArray):Bool:=decide ((p.size:Int)≤s.size)&&cc (s.extract 0 p.size) p
def wK(s p:ByteArray):ByteArray:=if xi s p=true then s.extract p.size s.size else s
theorem C_(N:Nat)(hN:1≤N)(s p:ByteArray):R N 253 [.p (.str s),.p (.str p)] []=some (ab (xi s p),[]):=by
 have aa:rows 253={}:=rfl
 obtain⟨n,rfl⟩:=up N
 rw[aE 253 Tryz.func253 rfl rfl]
 by_cases h:(p.size:Int)≤s.size
 ·simp[aa,h,xi]
 ·simp[aa,h,xi]
theorem zd(N:Nat)(hN:2≤N)(s p:ByteArray):R N 236 [.p (.str s),.p (.str p)] []=some (.p (.str (wK s p)),[]):=by
 have aa:rows 236={}:=rfl
 obtain⟨n,rfl⟩:=up N
 rw[aE 236 Tryz.func236 rfl rfl]
 have h1:=C_ n (by omega) s p
 by_cases h:xi s p=true
 ·have hs:p.size≤s.size:=by simp[xi] at h;omega
  simp[aa,h1,h,wK,hs]
 ·simp[aa,h1,h,wK]
theorem zK(N:Nat)(hN:3≤N)(s p:ByteArray):R N 204 [.p (.str s),.p (.str p)] []=some (.p (.str (wK s p)),[]):=by
 have aa:rows 204={}:=rfl
 obtain⟨n,rfl⟩:=up N
 rw[aE 204 Tryz.func204 rfl rfl]
 have h1:=zd n (by omega) s p
 simp[aa,h1]
def jJ:ByteArray:=⟨#[114,46]⟩
def wG(s:ByteArray):Bool:=ck (wK s jJ)
theorem Bn(N:Nat)(hN:50≤N)(s:ByteArray):R N 188 [.p (.str s)] []=some (ab (wG s),[]):=by
 have aa:rows 188={}:=rfl
 obtain⟨n,rfl⟩:=up N
 rw[aE 188 Tryz.func188 rfl rfl]
 have h1:R n 204 [.p (.str s),.p (.str ⟨#[114,46]⟩)] []=_:=zK n (by omega) s jJ
 have h2:=CZ n (wK s jJ) (by omega)
 simp[aa,h1,h2,wG]
theorem Y0(N:Nat)(hN:5≤N)(w x:Int):R N 187 [ai w,.p (.int .u64 x)] []=some (ab (aj (aj (decide (1≤w)) (decide (w≤64))) (decide (x≤br w))),[]):=by
 have aa:rows 187={}:=rfl
 obtain⟨n,rfl⟩:=up N
 rw[aE 187 Tryz.func187 rfl rfl]
 have h1:=yO n (by omega) w
 have h2:=jr n (by omega) w
 simp[aa,h1,h2]
theorem tp(N:Nat)(w:Int)(h1:w≤1000)(hN:1002≤N):R N 223 [ai w] []=some (.p (.int .u64 (2^w.toNat % 18446744073709551616)),[]):=by
 have aa:rows 223=_:=ZE.eq_1
 obtain⟨n,rfl⟩:=up N
 rw[aE 223 Tryz.func223 rfl rfl]
 simp[aa]
 rw[abC w.toNat (fun k=>⟨[(0,ai w),(3,.p (.int .u64 (2^k % 18446744073709551616))),(4,ai k)],[]⟩) (by omega) (by simp[aa]) (by
    intro k h K
    have w1:=aA h (by omega)
    have h':(k:Int)<w:=by omega
    have e:IntKind.u64.wrap ((2^k % 18446744073709551616:Int)+2^k % 18446744073709551616)=2^(k+1) % 18446744073709551616:=by
     rw[iY,Int.pow_succ];omega
    simp[aa,h',w1,e]) (by
     intro K
     have h':¬(max w 0<w):=by omega
     simp[aa,h'])]
 simp
theorem OR(N:Nat)(hN:2000≤N)(w x:Int):R N 193 [ai w,.p (.int .u64 x)] []=some (ab (aj (aj (decide (1≤w)) (decide (w≤64))) (cE (decide (w=64)) (decide (x<2^w.toNat % 18446744073709551616)))),[]):=by
 have aa:rows 193={}:=rfl
 obtain⟨n,rfl⟩:=up N
 rw[aE 193 Tryz.func193 rfl rfl]
 have h1:=w_ n (by omega) w
 by_cases h:1≤w∧w≤64
 ·have h2:=tp n w (by omega) (by omega)
  by_cases D5:w=64
  ·subst D5
   simp[aa,h1]
  ·simp[aa,h1,h2,h.1,h.2,D5]
 ·have e:aj (decide (1≤w)) (decide (w≤64))=false:=by simp only[ak,←Bool.decide_and,decide_eq_false_iff_not];exact h
  simp[aa,h1,e]
theorem YZ{w x:Int}(h0:0≤x)(h1:x<18446744073709551616):aj (aj (decide (1≤w)) (decide (w≤64))) (decide (x≤br w))=aj (aj (decide (1≤w)) (decide (w≤64))) (cE (decide (w=64)) (decide (x<2^w.toNat % 18446744073709551616))):=by
 by_cases h:1≤w∧w≤64
 ·simp only[h.1,h.2,decide_true]
  by_cases D5:w=64
  ·subst D5;simp[br];omega
  ·obtain⟨k,rfl⟩:∃k:Nat,w=k:=⟨w.toNat,by omega⟩
   have hk:k<64:=by omega
   have hp:(2:Int)^k<18446744073709551616:=by
    have:(2:Int)^k<2^64:=Int.pow_lt_pow_of_lt (by omega) hk
    omega
   have Mu:(0:Int)≤2^k:=Int.pow_nonneg (by omega)
   have:(2:Int)^k % 18446744073709551616=2^k:=Int.emod_eq_of_lt Mu hp
   simp[br,h,D5,this]
   omega
 ·have e:aj (decide (1≤w)) (decide (w≤64))=false:=by simp only[ak,←Bool.decide_and,decide_eq_false_iff_not];exact h
  simp[e]
def nQ(s:ByteArray):Bool:=if decide ((2:Int)<s.size)&&cc (s.extract 0 2) jJ then ck (s.extract 2 s.size) else ck s
theorem BM(N:Nat)(hN:50≤N)(s:ByteArray):R N 194 [.p (.str s)] []=some (ab (nQ s),[]):=by
 have aa:rows 194={}:=rfl
 obtain⟨n,rfl⟩:=up N
 rw[aE 194 Tryz.func194 rfl rfl]
 have h1:=kL n s (by omega)
 have h2:=kL n (s.extract 2 s.size) (by omega)
 by_cases hs:(2:Int)<s.size
 ·have Ce:2≤s.size:=by omega
  have Jw:(2:Int)≤s.size:=by omega
  by_cases he:cc (s.extract 0 2) jJ=true
  ·have ET:=he
   unfold jJ at ET
   simp[aa,h1,h2,hs,Ce,Jw,ET,nQ,he]
  ·have ET:=he
   unfold jJ at ET
   simp[aa,h1,h2,hs,Ce,Jw,ET,nQ,he]
 ·simp[aa,h1,h2,hs,nQ]
def On:Nat→ByteArray
 |0=>⟨#[]⟩
 |1=>⟨#[]⟩
 |2=>⟨#[]⟩
 |3=>⟨#[110,111,116]⟩
 |4=>⟨#[110,101,103]⟩
 |5=>⟨#[97,100,100]⟩
 |6=>⟨#[115,117,98]⟩
 |7=>⟨#[109,117,108]⟩
 |8=>⟨#[97,110,100]⟩
 |9=>⟨#[111,114]⟩
 |10=>⟨#[120,111,114]⟩
 |11=>⟨#[115,104,108]⟩
 |12=>⟨#[115,104,114]⟩
 |13=>⟨#[115,97,114]⟩
 |14=>⟨#[117,100,105,118]⟩
 |15=>⟨#[117,114,101,109]⟩
 |16=>⟨#[101,113]⟩
 |17=>⟨#[117,108,116]⟩
 |18=>⟨#[115,108,116]⟩
 |19=>⟨#[105,116,101]⟩
 |20=>⟨#[99,111,110,99,97,116]⟩
 |21=>⟨#[101,120,116,114,97,99,116]⟩
 |22=>⟨#[122,101,120,116]⟩
 |23=>⟨#[115,101,120,116]⟩
 |24=>⟨#[108,111,97,100]⟩
 |_=>⟨#[]⟩
def ij:List Int:=[0,0,0,1,1,2,2,2,2,2,2,2,2,2,2,2,2,2,2,3,2,1,1,1,1]
def jt:List Int:=[0,0,0,1,1,1,1,1,1,1,1,1,1,1,1,1,2,2,2,3,4,5,6,6,7]
theorem DD:∀k:Nat,k<25→(lR.drop (k*3)).take 3=[.str (On k),i64 (ij.getD k 0),i64 (jt.getD k 0)]
 |0,_=>rfl
 |1,_=>rfl
 |2,_=>rfl
 |3,_=>rfl
 |4,_=>rfl
 |5,_=>rfl
 |6,_=>rfl
 |7,_=>rfl
 |8,_=>rfl
 |9,_=>rfl
 |10,_=>rfl
 |11,_=>rfl
 |12,_=>rfl
 |13,_=>rfl
 |14,_=>rfl
 |15,_=>rfl
 |16,_=>rfl
 |17,_=>rfl
 |18,_=>rfl
 |19,_=>rfl
 |20,_=>rfl
 |21,_=>rfl
 |22,_=>rfl
 |23,_=>rfl
 |24,_=>rfl
 |k+25,h=>absurd h (by omega)
theorem Oq:∀k:Nat,k<25→lR[k*3+1]? =some (i64 (ij.getD k 0))
 |0,_=>rfl
 |1,_=>rfl
 |2,_=>rfl
 |3,_=>rfl
 |4,_=>rfl
 |5,_=>rfl
 |6,_=>rfl
 |7,_=>rfl
 |8,_=>rfl
 |9,_=>rfl
 |10,_=>rfl
 |11,_=>rfl
 |12,_=>rfl
 |13,_=>rfl
 |14,_=>rfl
 |15,_=>rfl
 |16,_=>rfl
 |17,_=>rfl
 |18,_=>rfl
 |19,_=>rfl
 |20,_=>rfl
 |21,_=>rfl
 |22,_=>rfl
 |23,_=>rfl
 |24,_=>rfl
 |k+25,h=>absurd h (by omega)
@[simp] theorem asQ(g:Nat):uv (.glob g)=.glob g:=rfl
@[simp] theorem asX(g:Nat)(b:Bool):uk b (.glob g)=true:=rfl
@[simp] theorem WB(k:Int):T5 (some lR) T k (some (.array 25 204))=⟨.p (.ptr lR (k.toNat*3)),decide (0≤k∧k<25)⟩:=by
  simp only[T5,F2,F2]
  rfl
def S_(k:Int):AV:=.agg [.p (.str (On k.toNat)),ai (ij.getD k.toNat 0),ai (jt.getD k.toNat 0)]
theorem Kp(N:Nat)(hN:1≤N)(k:Int)(h:0≤k):R N 186 [.p (.int .u8 k)] []=some (.tup [if 24<k then .agg [.p (.str ⟨#[]⟩),ai 0,ai 0] else S_ k,ab (if 24<k then false else decide (0<ij.getD k.toNat 0))],[]):=by
 have aa:rows 186=_:=ZM.eq_1
 obtain⟨n,rfl⟩:=up N
 rw[aE 186 Tryz.func186 rfl rfl]
 by_cases h1:(24:Int)<k
 ·simp[aa,h1]
 ·have h2:k<25:=by omega
  have hk:k.toNat<25:=by omega
  have e1:((lR.map AV.p).drop (k.toNat*3)).take 3=[.p (.str (On k.toNat)),ai (ij.getD k.toNat 0),ai (jt.getD k.toNat 0)]:=by
   rw[←List.map_drop,←List.map_take,DD k.toNat hk];rfl
  have e2:=Oq k.toNat hk
  have hlen:lR.length=75:=rfl
  have h3:k.toNat*3+3≤75:=by omega
  have h4:k.toNat*3+1<75:=by omega
  unfold S_
  generalize ij.getD k.toNat 0=sa at*
  generalize jt.getD k.toNat 0=sh at*
  have e3:∀h:k.toNat*3+1<lR.length,lR[k.toNat*3+1]=i64 sa:=fun h=>by
   have:=List.getElem?_eq_getElem h;rw[e2] at this;exact(Option.some.inj this).symm
  simp[aa,h1,h,h2,e1,e3,hlen,h3,h4]
def cI(w:Int):Bool:=aj (decide (1≤w)) (decide (w≤64))
def fH(t:Tr)(Cg:Int):Bool:=
 if Cg=1 then !(t.sub.any fun x=> !decide (x.width=t.width))
 else if Cg=2 then aj (decide (t.width=1)) (decide ((nth t.sub 1).width=(nth t.sub 0).width))
 else if Cg=3 then aj (aj (decide ((nth t.sub 0).width=1)) (decide ((nth t.sub 1).width=t.width))) (decide ((nth t.sub 2).width=t.width))
 else if Cg=4 then aj (aj (cI (nth t.sub 0).width) (cI (nth t.sub 1).width)) (decide (IntKind.i64.wrap ((nth t.sub 0).width+(nth t.sub 1).width)=t.width))
 else if Cg=5 then aj (aj (aj (decide (0≤t.low)) (cI (nth t.sub 0).width)) (decide (t.width≤(nth t.sub 0).width))) (decide (t.low≤IntKind.i64.wrap ((nth t.sub 0).width-t.width)))
 else if Cg=6 then decide ((nth t.sub 0).width≤t.width)
 else gE t.width
theorem GF(N:Nat)(hN:1≤N)(x:Tr)(w:Int):R N 206 [ag (aC x),.ref 0 0] (boxes [[i64 w]])=some (ab (!decide (x.width=w)),boxes [[i64 w]]):=by
 have aa:rows 206={}:=rfl
 obtain⟨n,rfl⟩:=up N
 rw[aE 206 Tryz.func206 rfl rfl]
 simp[aa,boxes]
theorem J_(N:Nat)(hN:1100≤N)(t:Tr)(Cg:Int)(hl:t.sub.length≤1000)(h0:0<t.sub.length)(h1:Cg=2∨Cg=4→1<t.sub.length)(h2:Cg=3→2<t.sub.length):
  R N 189 [ag (aC t),ai Cg] []=some (ab (fH t Cg),[]):=by
 have aa:rows 189=_:=ZL.eq_1
 obtain⟨n,rfl⟩:=up N
 rw[aE 189 Tryz.func189 rfl rfl]
 obtain⟨x0,lZ,fV,_⟩:=ay (l:=t.sub) (k:=0) h0
 have fV:nth t.sub 0=x0:=fV
 have jT:fg t.z (t.sub.map aT)=.sl (t.sub.map aT):=bX t.z h0
 have hc:=vY n t.sub 206 [[i64 t.width]] (fun x=> !decide (x.width=t.width)) rfl (by simp) (by omega) (by omega) (fun M hM x hx=>GF M (by omega) x t.width)
 simp[boxes,refs,fA] at hc
 have hw:=Dv n (by omega)
 have wo:=El n (by omega) t.width
 by_cases k1:Cg=1
 ·simp[aa,h0,lZ,jT,hc,fH,eq_true k1]
 ·by_cases k2:Cg=2
  ·have hh:=h1 (.inl k2)
   have QY:(1:Int)<t.sub.length:=by omega
   obtain⟨x1,kV,iB,_⟩:=ay (l:=t.sub) (k:=1) hh
   have iB:nth t.sub 1=x1:=by exact_mod_cast iB
   simp[aa,h0,lZ,jT,hh,QY,kV,fH,fV,iB,k1,eq_true k2]
  ·by_cases k3:Cg=3
   ·have hh:=h2 k3
    have hh1:1<t.sub.length:=by omega
    have QY:(1:Int)<t.sub.length:=by omega
    have hhJ:(2:Int)<t.sub.length:=by omega
    obtain⟨x1,kV,iB,_⟩:=ay (l:=t.sub) (k:=1) hh1
    obtain⟨x2,tt,vM,_⟩:=ay (l:=t.sub) (k:=2) hh
    have iB:nth t.sub 1=x1:=by exact_mod_cast iB
    have vM:nth t.sub 2=x2:=by exact_mod_cast vM
    simp[aa,h0,lZ,jT,hh,hh1,QY,hhJ,kV,tt,fH,fV,iB,vM,k1,k2,eq_true k3]
   ·by_cases k4:Cg=4
    ·have hh:=h1 (.inr k4)
     have QY:(1:Int)<t.sub.length:=by omega
     obtain⟨x1,kV,iB,_⟩:=ay (l:=t.sub) (k:=1) hh
     have iB:nth t.sub 1=x1:=by exact_mod_cast iB
     simp[aa,h0,lZ,jT,hh,QY,kV,fH,fV,iB,hw,cI,k1,k2,k3,eq_true k4]
    ·by_cases k5:Cg=5
     ·simp[aa,h0,lZ,jT,fH,fV,hw,cI,k1,k2,k3,k4,eq_true k5]
     ·by_cases k6:Cg=6
      ·simp[aa,h0,lZ,jT,fH,fV,k1,k2,k3,k4,k5,eq_true k6]
      ·simp[aa,h0,lZ,jT,fH,k1,k2,k3,k4,k5,k6,wo]
def yT(t:Tr):Bool:=
 aj (aj (decide ((t.sub.length:Int)=0)) (decide (t.low=0)))
  (cE (aj (aj (decide (t.kind=1)) (cc t.name ⟨#[]⟩)) (aj (aj (decide (1≤t.width)) (decide (t.width≤64))) (decide (t.bits≤br t.width))))
    (aj (aj (decide (t.kind=2)) (decide (t.bits=0))) (wG t.name)))
def kN(t:Tr):Bool:=
 aj (aj (aj (decide (t.bits=0)) (cc t.name ⟨#[]⟩)) (cE (decide (t.low=0)) (decide (jt.getD t.kind.toNat 0=5)))) (decide ((t.sub.length:Int)=ij.getD t.kind.toNat 0))
def eP(t:Tr):Bool:=
 if cI t.width=true then
  (if t.kind≤24∧0<ij.getD t.kind.toNat 0 then(if kN t=true then fH t (jt.getD t.kind.toNat 0) else false) else yT t)
 else false
theorem S1:∀k:Nat,k<25→(jt.getD k 0=2∨jt.getD k 0=4→ij.getD k 0=2)∧(jt.getD k 0=3→ij.getD k 0=3):=by decide
theorem N8(N:Nat)(hN:1200≤N)(t:Tr)(hk:0≤t.kind)(hl:t.sub.length≤1000):R N 168 [ag (aC t)] []=some (ab (eP t),[]):=by
 have aa:rows 168={}:=rfl
 obtain⟨n,rfl⟩:=up N
 rw[aE 168 Tryz.func168 rfl rfl]
 have hw:=Dv n (by omega) t.width
 have hs:=Kp n (by omega) t.kind hk
 have ho:=Y0 n (by omega) t.width t.bits
 have hv:=Bn n (by omega) t.name
 cases ED:aj (decide (1≤t.width)) (decide (t.width≤64))
 ·rw[ED] at hw
  have e:eP t=false:=by simp[eP,cI,ED]
  rw[e]
  simp[aa,hw]
 ·rw[ED] at hw
  by_cases JB:t.kind≤24∧0<ij.getD t.kind.toNat 0
  ·have yf:¬24<t.kind:=by omega
   have hA:=JB.2
   have e:eP t=(if kN t=true then fH t (jt.getD t.kind.toNat 0) else false):=by simp only[eP,cI,ED,if_true,JB,and_self]
   rw[e]
   rw[if_neg yf,if_neg yf,decide_eq_true hA] at hs
   unfold S_ at hs
   have hsh:=S1 t.kind.toNat (by omega)
   have T8:kN t=true→R n 189 [ag (aC t),ai (jt.getD t.kind.toNat 0)] []=some (ab (fH t (jt.getD t.kind.toNat 0)),[]):=by
    intro hp
    have hlen:(t.sub.length:Int)=ij.getD t.kind.toNat 0:=by
     unfold kN at hp;simp only[ak,Bool.and_eq_true,decide_eq_true_eq] at hp;exact hp.2
    exact J_ n (by omega) t _ hl (by omega) (fun h=>by have:=hsh.1 h;omega) (fun h=>by have:=hsh.2 h;omega)
   unfold kN at T8 ⊢
   generalize ij.getD t.kind.toNat 0=sa at*
   generalize jt.getD t.kind.toNat 0=sh at*
   generalize On t.kind.toNat=sn at*
   by_cases hp:aj (aj (aj (decide (t.bits=0)) (cc t.name ⟨#[]⟩)) (cE (decide (t.low=0)) (decide (sh=5)))) (decide ((t.sub.length:Int)=sa))=true
   ·have T8:=T8 hp
    simp[aa,hw,hs,T8,hp]
   ·have hp:aj (aj (aj (decide (t.bits=0)) (cc t.name ⟨#[]⟩)) (cE (decide (t.low=0)) (decide (sh=5)))) (decide ((t.sub.length:Int)=sa))=false:=by simpa using hp
    simp[aa,hw,hs,hp]
  ·have e:eP t=yT t:=by simp only[eP,cI,ED,if_true,JB,if_false]
   rw[e]
   by_cases yf:24<t.kind
   ·rw[if_pos yf,if_pos yf] at hs
    simp[aa,hw,hs,ho,hv,yT]
   ·have hA:¬0<ij.getD t.kind.toNat 0:=fun h=>JB ⟨by omega,h⟩
    rw[if_neg yf,if_neg yf,decide_eq_false hA] at hs
    unfold S_ at hs
    generalize ij.getD t.kind.toNat 0=sa at*
    generalize jt.getD t.kind.toNat 0=sh at*
    generalize On t.kind.toNat=sn at*
    simp[aa,hw,hs,ho,hv,yT]
mutual
theorem zY{σ:Type}{step:σ→Tr→Bool×σ}{L:σ→Prop}(hL:∀s t,L s→(step s t).1=true→L (step s t).2):∀(s:σ) (t:Tr),L s→(jH step s t).1=true→L (jH step s t).2
 |s,.mk k w b n l z sub,hs,h=>by
  simp only[jH] at h ⊢
  have h1:=hL s (.mk k w b n l z sub) hs
  cases e:step s (.mk k w b n l z sub) with
  |mk c s'=>
   rw[e] at h h1
   cases c with
   |true=>exact zZ hL s' sub (h1 rfl) h
   |false=>exact absurd h (by simp)
theorem zZ{σ:Type}{step:σ→Tr→Bool×σ}{L:σ→Prop}(hL:∀s t,L s→(step s t).1=true→L (step s t).2):∀(s:σ) (l:List Tr),L s→(fm step s l).1=true→L (fm step s l).2
 |s,[],hs,_=>by simpa [fm] using hs
 |s,x::r,hs,h=>by
  simp only[fm] at h ⊢
  have h1:=zY hL s x hs
  cases e:jH step s x with
  |mk c s'=>
   rw[e] at h h1
   cases c with
   |true=>exact zZ hL s' r (h1 rfl) h
   |false=>exact absurd h (by simp)
end
theorem GJ{σ:Type}{Hs:σ→Hp→Prop}{base id d0:Nat}{step:σ→Tr→Bool×σ}{L:σ→Prop}{Q:Tr→Prop}(hQ:∀t,Q t→∀x∈t.sub,Q x)(hL:∀s t,L s→(step s t).1=true→L (step s t).2)(hC:Client σ Hs base)(aH:id<base){d:Nat}
  (hy:∀M s h t,d0≤M→L s→Q t→Dp d t→Hs s h→∃h',Y M id [ag (aC t)] h=some ((step s t).1,h')∧Hs (step s t).2 h'∧h.length≤h'.length∧∀i,base≤i→i<h.length→h'.at i=h.at i):
  ∀(k N:Nat) (s:σ) (h:Hp) (t:Tr),L s→Q t→k≤d→Dp k t→d0+k+1002≤N→Hs s h→
   ∃h',R N 184 [ag (aC t),.yl id] h=some (ab (jH step s t).1,h')∧Hs (jH step s t).2 h'∧h'.length=h.length:=by
 intro k
 induction k with
 |zero=>intro N s h t _ _ _ ht;exact ht.elim
 |succ k ih=>
  intro N s h t hLs hQt hk ht hN hs
  have aa:rows 184=_:=NK.eq_1
  obtain⟨n,rfl⟩:=up N
  rw[aE 184 Tryz.func184 rfl rfl]
  have hb:=hC.len s h hs
  have nY:=hC.box s h (aC t) hs
  obtain⟨h1,y1,y2,y3,y4⟩:=hy n s _ t (by omega) hLs hQt (ht.mono hk) nY
  have y4:=y4 h.length hb (by simp)
  rw[ki] at y4
  rw[nf]
  cases e:step s t with
  |mk b s1=>
   rw[e] at y1 y2
   have hL1:b=true→L s1:=fun hb=>by have:=hL s t hLs (by rw[e];exact hb);rw[e] at this;exact this
   cases b with
   |false=>
    simp at y3
    refine⟨(h1.map (eS h.length)).take h.length, ?_,hC.low _ _ _ y2 hb (by omega),by simp;omega⟩
    simp[aa,ki,y1]
    omega
   |true=>
    simp at y3 y2
    simp[aa,ki,y1,y4]
    have ux:id<h1.length:=by omega
    generalize hr:iter _ _ _ _ _=r
    have key:∃h',((fm step s1 t.sub).1=true∧r=some (.exit 0,⟨[(1,.yl id),(4,ab false),(12,.p (fg t.z (t.sub.map aT))),(13,ai t.sub.length),(14,ai t.sub.length)],h'⟩)∨
      ((fm step s1 t.sub).1=false∧∃j:Int,r=some (.ret,⟨[(1,.yl id),(4,ab false),(12,.p (fg t.z (t.sub.map aT))),(13,ai t.sub.length),(14,ai j)],h'⟩)))∧
      Hs (fm step s1 t.sub).2 h'∧h'.length=h1.length:=by
     rw[←hr]
     refine mE t.sub.length (fun k s=>∃h' s',L s'∧s=⟨[(1,.yl id),(4,ab false),(12,.p (fg t.z (t.sub.map aT))),(13,ai t.sub.length),(14,ai k)],h'⟩∧Hs s' h'∧h'.length=h1.length∧fm step s' (t.sub.drop k)=fm step s1 t.sub)
      (fun r=>∃h',((fm step s1 t.sub).1=true∧r=some (.exit 0,⟨[(1,.yl id),(4,ab false),(12,.p (fg t.z (t.sub.map aT))),(13,ai t.sub.length),(14,ai t.sub.length)],h'⟩)∨
      ((fm step s1 t.sub).1=false∧∃j:Int,r=some (.ret,⟨[(1,.yl id),(4,ab false),(12,.p (fg t.z (t.sub.map aT))),(13,ai t.sub.length),(14,ai j)],h'⟩)))∧
      Hs (fm step s1 t.sub).2 h'∧h'.length=h1.length) ?_ ?_ (by have:=ht.1;omega) ?_
     ·rintro k _ K hk ⟨h2,s2,XF,rfl,i1,i2,i3⟩ hK
      obtain⟨x,hx,_,hm⟩:=ay hk
      have w1:=aA hk (by have:=ht.1;omega)
      have e1:fg t.z (t.sub.map aT)=.sl (t.sub.map aT):=kF _ _ (by intro e;rw[List.map_eq_nil_iff] at e;rw[e] at hk;cases hk)
      obtain⟨h3,z1,z2,z3⟩:=ih n s2 (h2++[bx (aC x)]) x XF (hQ t hQt x hm) (by omega) (ht.2 x hm) (by omega) (hC.box _ _ _ i1)
      rw[List.drop_eq_getElem_cons hk,hx hk] at i3
      simp only[fm] at i3
      have Sb:h3.length=h1.length+1:=by simp[z3,i2]
      have a2:∀o,Hp.at (h2++[o]) h1.length=o:=fun o=>by rw[←i2,ki]
      have a3:∀o o',(h2++[o]).set h1.length o'=h2++[o']:=fun o o'=>by rw[←i2,DE]
      cases ev:jH step s2 x with
      |mk b s3=>
       rw[ev] at z1 z2 i3
       cases b with
       |false=>
        simp only at i3
        refine⟨(h3.map (eS h1.length)).take h1.length,.inr ⟨by rw[←i3],(k:Int), ?_⟩,by rw[←i3];exact hC.low _ _ _ z2 (by omega) (by omega),by simp;omega⟩
        simp[aa,e1,hk,hx,a2,a3,z1,i2,ux]
       |true=>
        simp only at i3
        simp[aa,e1,hk,hx,a2,a3,z1,w1,i2,ux]
        have hK:=hK _ ⟨_,s3,by have:=zY hL s2 x XF (by rw[ev]);rw[ev] at this;exact this,rfl,hC.low _ _ h1.length z2 (by omega) (by omega),by simp;omega,i3⟩
        simpa [e1] using hK
     ·rintro _ K ⟨h2,s2,XF,rfl,i1,i2,i3⟩
      simp[fm] at i3
      refine⟨(h2.map (eS h1.length)).take h1.length,.inl ⟨by rw[←i3], ?_⟩,by rw[←i3];exact hC.low _ _ _ i1 (by omega) (by omega),by simp;omega⟩
      simp[aa,ux]
     ·refine⟨(h1.map (eS h1.length)).take h1.length,s1,hL1 rfl, ?_,hC.low _ _ _ y2 (by omega) (by omega),by simp,by simp⟩
      simp[ux]
    obtain⟨h',k1,k2,k3⟩:=key
    refine⟨(h'.map (eS h.length)).take h.length, ?_,hC.low _ _ _ k2 hb (by omega),by simp;omega⟩
    rcases k1 with⟨k4,rfl⟩|⟨k4,j,rfl⟩
    ·simp[k4];omega
    ·simp[k4];omega
@[simp] theorem TU(k:ByteArray)(l:List (ByteArray×Int)):Ax k true (.map (smap l))=⟨.tup [ai (gY k l),ab (ju k l).isSome],true⟩:=by
  simp only[Ax,tN,if_true,HL,gY]
  cases ju k l<;>rfl
theorem ov{σ:Type}{Hs:σ→Hp→Prop}{base id d0:Nat}{step:σ→Tr→Bool×σ}{L:σ→Prop}{Q:Tr→Prop}(hQ:∀t,Q t→∀x∈t.sub,Q x)(hL:∀s t,L s→(step s t).1=true→L (step s t).2)(hC:Client σ Hs base)(aH:id<base){d:Nat}
  (hy:∀M s h t,d0≤M→L s→Q t→Dp d t→Hs s h→∃h',Y M id [ag (aC t)] h=some ((step s t).1,h')∧Hs (step s t).2 h'∧h.length≤h'.length∧∀i,base≤i→i<h.length→h'.at i=h.at i)
  (N:Nat)(s:σ)(h:Hp)(t:Tr)(Jx:L s)(hq:Q t)(ht:Dp d t)(hN:d0+d+1003≤N)(hs:Hs s h):
    ∃h',R N 183 [.yl id,.p (.ptr (aC t) 0)] h=some (.tup [],h')∧Hs (jH step s t).2 h'∧h'.length=h.length:=by
 have aa:rows 183={}:=rfl
 obtain⟨n,rfl⟩:=up N
 rw[aE 183 Tryz.func183 rfl rfl]
 obtain⟨h1,y1,y2,y3⟩:=GJ hQ hL hC aH hy d n s h t Jx hq (Nat.le_refl _) ht (by omega) hs
 have hb:=hC.len s h hs
 refine⟨(h1.map (eS h.length)).take h.length, ?_,hC.low _ _ _ y2 hb (by omega),by simp;omega⟩
 simp[aa,y1,y3]
@[simp] theorem CK(bs:List (List PV)):List.length (boxes bs)=bs.length:=by simp[boxes]
@[simp] theorem arf(bs:List (List PV))(o:Obj):Hp.at (boxes bs++[o]) bs.length=o:=by
  have:=ki (boxes bs) o
  rwa [CK] at this
abbrev SP(t:Tr):Tm:=[(0,ag (aC t)),(1,.ref 0 0),(2,.ref 1 0),(3,.ref 2 0),(8,.map 3),(4,.ref 4 0),(9,ag (aC t)),(10,.p (.fn 183 [.ptr (aC t) 0]))]
abbrev PK(t:Tr)(b:Bool)(vs:List (ByteArray×Int)):Hp:=[bx (aC t),.box [.p .nilm],.box [ab false],.map (smap vs),.box [.map 3],.loop (if b=true then .ready else .done .ret) 169 0 (SP t)]
def af6(t:Tr)(s:Bool×List (ByteArray×Int))(h:Hp):Prop:=∃bs,h=PK t s.1 s.2++boxes bs
def dX(s:Bool×List (ByteArray×Int))(x:Tr):Bool×Bool×List (ByteArray×Int):=
 if x.kind=2 then(if aj (ju x.name s.2).isSome (!decide (gY x.name s.2=x.width))=true then(false,(false,s.2)) else(true,(s.1,qD x.name x.width s.2))) else(true,s)
theorem IP(t:Tr)(d:Nat):∀M s h x,1≤M→s.1=true→True→Dp d x→af6 t s h→∃h',Y M 5 [ag (aC x)] h=some ((dX s x).1,h')∧af6 t (dX s x).2 h'∧h.length≤h'.length∧∀i,6≤i→i<h.length→h'.at i=h.at i:=by
 rintro M ⟨b,vs⟩ _ x hM hb _ _ ⟨bs,rfl⟩
 obtain⟨n,rfl⟩:∃n,M=n+1:=⟨M-1,by omega⟩
 have hb:b=true:=hb
 subst hb
 have aa:rows 169={}:=rfl
 refine⟨PK t (dX (true,vs) x).2.1 (dX (true,vs) x).2.2++boxes (bs++[aC x]), ?_,⟨bs++[aC x],rfl⟩,by simp,fun i hi hl=> ?_⟩
 ·rw[IA,tB (fn:=Tryz.f169) rfl (show fs 169=some Tryz.f169 from Tryz.func169) rfl rfl rfl,xc,←gT]
  by_cases hk:x.kind=2
  ·cases hc:aj (ju x.name vs).isSome (!decide (gY x.name vs=x.width))
   ·simp[aa,dX,hk,hc]
   ·simp[aa,dX,hk,hc]
  ·simp[aa,dX,hk]
 ·match i,hi with
  |i+6,_=>
   have Lz:i<bs.length:=by simp at hl;omega
   show Hp.at (boxes (bs++[aC x])) i=Hp.at (boxes bs) i
   rw[←gT]
   simp[Hp.at,boxes,List.getElem?_append,Lz]
theorem FA(t:Tr):Client (Bool×List (ByteArray×Int)) (af6 t) 6:=by
 refine⟨?_, ?_, ?_⟩
 ·rintro s _ l ⟨bs,rfl⟩
  exact⟨bs++[l],by rw[List.append_assoc,gT]⟩
 ·rintro s _ m ⟨bs,rfl⟩ h1 h2
  obtain⟨m,rfl⟩:∃k,m=k+6:=⟨m-6,by omega⟩
  refine⟨bs.take m, ?_⟩
  rw[←rI bs (m+6) m]
  simp[eS,cA]
 ·rintro s _ ⟨bs,rfl⟩;simp
theorem u0(s:Bool×List (ByteArray×Int))(t:Tr)(h:s.1=true)(h1:(dX s t).1=true):(dX s t).2.1=true:=by
 unfold dX at h1 ⊢
 split at h1
 ·rename_i hk
  rw[if_pos hk]
  split at h1
  ·exact absurd h1 (by simp)
  ·rename_i hc;rw[if_neg hc];exact h
 ·rename_i hk;rw[if_neg hk];exact h
def vH(t:Tr):Bool:=(jH dX (true,[]) t).2.1
theorem N4(N d:Nat)(t:Tr)(ht:Dp d t)(hN:d+1100≤N):∃vs,R N 169 [ag (aC t)] []=
  some (.tup [if vH t=true then .map 3 else .p .nilm,ab (vH t)],[bx (aC t),.box [if vH t=true then .map 3 else .p .nilm],.box [ab (vH t)],.map (smap vs),.box [.map 3],.dead]):=by
 have aa:rows 169={}:=rfl
 obtain⟨n,rfl⟩:=up N
 rw[aE 169 Tryz.func169 rfl rfl]
 have hn:=ss n (by omega) t
 obtain⟨h',y1,⟨bs,rfl⟩,y3⟩:=ov (L:=fun s=>s.1=true) (Q:=fun _=>True) (fun _ _ _ _=>trivial) u0 (FA t) (id:=5) (by omega) (IP t d) n (true,[]) _ t rfl trivial ht (by omega) ⟨[],rfl⟩
 have hb:bs=[]:=by
  apply List.eq_nil_of_length_eq_zero
  simpa [boxes] using y3
 subst hb
 simp[boxes,smap] at y1
 unfold vH
 generalize hv:(jH dX (true,[]) t).2=rv at y1 ⊢
 obtain⟨b,vs⟩:=rv
 cases b
 ·have Jx:smap []=[]:=rfl
  simp[PK,SP,Jx] at y1
  refine⟨vs, ?_⟩
  simp[aa,hn,y1]
 ·have Jx:smap []=[]:=rfl
  simp[PK,SP,Jx] at y1
  refine⟨vs, ?_⟩
  simp[aa,hn,y1]
abbrev aan(t:Tr):Tm:=[(0,ag (aC t)),(1,.ref 0 0),(2,.ref 1 0),(6,ag (aC t)),(7,ai (aF t)),(8,ab false),(9,ab false),(10,.gd true (ag (aC t))),(11,.gd true (ai (eg t))),(12,.gd true (ab false)),(13,ab false),(14,ag (aC t)),(15,.p (.fn 183 [.ptr (aC t) 0]))]
abbrev Ue(t:Tr)(b:Bool):Hp:=[bx (aC t),.box [ai (if b=true then 0 else 8)],.loop (if b=true then .ready else .done .ret) 138 0 (aan t)]
def af8(t:Tr)(s:Bool)(h:Hp):Prop:=∃bs,h=Ue t s++boxes bs
def gi(s:Bool)(x:Tr):Bool×Bool:=if eP x=true then(true,s) else(false,false)
theorem Sz(t:Tr)(d:Nat):∀M s h x,1300≤M→s=true→0≤x.kind∧x.sub.length≤1000→Dp d x→af8 t s h→∃h',Y M 2 [ag (aC x)] h=some ((gi s x).1,h')∧af8 t (gi s x).2 h'∧h.length≤h'.length∧∀i,3≤i→i<h.length→h'.at i=h.at i:=by
 rintro M b _ x hM hb hq _ ⟨bs,rfl⟩
 obtain⟨n,rfl⟩:∃n,M=n+1:=⟨M-1,by omega⟩
 subst hb
 have aa:rows 138={}:=rfl
 have fW:=N8 n (by omega) x hq.1 hq.2
 refine⟨Ue t (gi true x).2++boxes (bs++[aC x]), ?_,⟨bs++[aC x],rfl⟩,by simp,fun i hi hl=> ?_⟩
 ·rw[IA,tB (fn:=Tryz.f138) rfl (show fs 138=some Tryz.f138 from Tryz.func138) rfl rfl rfl,xc,←gT]
  cases hc:eP x
  ·rw[hc] at fW
   simp[aa,gi,hc,fW]
  ·rw[hc] at fW
   simp[aa,gi,hc,fW]
 ·match i,hi with
  |i+3,_=>
   have Lz:i<bs.length:=by simp at hl;omega
   show Hp.at (boxes (bs++[aC x])) i=Hp.at (boxes bs) i
   rw[←gT]
   simp[Hp.at,boxes,List.getElem?_append,Lz]
def K0:Nat→Tr→Prop
 |0,_=>False
 |n+1,t=>(0≤t.kind∧t.sub.length≤1000)∧∀x∈t.sub,K0 n x
def KQ(t:Tr):Prop:=∃n,K0 n t
theorem KQ.sub(t:Tr)(h:KQ t)(x:Tr)(hx:x∈t.sub):KQ x:=by
 obtain⟨n,h⟩:=h
 cases n with
 |zero=>exact h.elim
 |succ n=>exact⟨n,h.2 x hx⟩
theorem KQ.here{t:Tr}(h:KQ t):0≤t.kind∧t.sub.length≤1000:=by
 obtain⟨n,h⟩:=h
 cases n with
 |zero=>exact h.elim
 |succ n=>exact h.1
theorem Qy(t:Tr):Client Bool (af8 t) 3:=by
 refine⟨?_, ?_, ?_⟩
 ·rintro s _ l ⟨bs,rfl⟩
  exact⟨bs++[l],by rw[List.append_assoc,gT]⟩
 ·rintro s _ m ⟨bs,rfl⟩ h1 h2
  obtain⟨m,rfl⟩:∃k,m=k+3:=⟨m-3,by omega⟩
  refine⟨bs.take m, ?_⟩
  rw[←rI bs (m+3) m]
  simp[eS,cA]
 ·rintro s _ ⟨bs,rfl⟩;simp
theorem Dz(s:Bool)(t:Tr)(h:s=true)(h1:(gi s t).1=true):(gi s t).2=true:=by
 unfold gi at h1 ⊢
 split at h1
 ·rename_i hk;rw[if_pos hk];exact h
 ·exact absurd h1 (by simp)
def qP(t:Tr):Bool:=(jH gi true t).2
def yS(t:Tr):Bool:=cE (decide ((400:Int)<aF t)) (decide ((60:Int)<eg t))
def cN(t:Tr):Int:=if yS t=true then 4 else if qP t=true then(if vH t=true then 0 else 14) else 8
theorem tI(N d:Nat)(t:Tr)(ht:Dp d t)(hq:KQ t)(hd:d≤1000)(hs:aF t≤1000000)(hN:d+2400≤N):R N 138 [ag (aC t)] []=some (ai (cN t),[]):=by
 have aa:rows 138={}:=rfl
 obtain⟨n,rfl⟩:=up N
 rw[aE 138 Tryz.func138 rfl rfl]
 have h1:=Vt n d t ht (by omega) hs
 have h2:=RY d n t ht (by omega) (by omega)
 have hn:=ss n (by omega) t
 by_cases c:yS t=true
 ·have e:cN t=4:=by simp[cN,c]
  rw[e]
  unfold yS at c
  simp[aa,h1,h2,hn,c]
 ·have c:yS t=false:=by simpa using c
  have c':=c
  simp[yS,aK] at c'
  have c1:¬(400:Int)<aF t:=by omega
  have c2:¬(60:Int)<eg t:=by omega
  obtain⟨h',y1,⟨bs,rfl⟩,y3⟩:=ov (L:=fun s=>s=true) (Q:=KQ) KQ.sub Dz (Qy t) (id:=2) (by omega) (fun M s h x hM hl hq=>Sz t d M s h x hM hl hq.here) n true _ t rfl hq ht (by omega) ⟨[],rfl⟩
  have hb:bs=[]:=by
   apply List.eq_nil_of_length_eq_zero
   simpa [boxes] using y3
  subst hb
  obtain⟨vs,hv⟩:=N4 n d t ht (by omega)
  have e:cN t=if qP t=true then(if vH t=true then 0 else 14) else 8:=by simp[cN,c]
  rw[e]
  simp[boxes] at y1
  unfold qP
  generalize hvv:(jH gi true t).2=b at y1 ⊢
  have ib:∀l,lY (.box l)=false:=fun _=>rfl
  cases b
  ·simp[Ue,aan] at y1
   simp[aa,h1,h2,hn,c1,c2,y1]
  ·simp[Ue,aan] at y1
   cases ho:vH t
   ·rw[ho] at hv
    simp at hv
    simp[aa,h1,h2,hn,c1,c2,y1,hv,ib]
   ·rw[ho] at hv
    simp at hv
    simp[aa,h1,h2,hn,c1,c2,y1,hv,ib]
def ry(m:aw)(vs:List (ByteArray×Int))(x:Tr):Bool:=decide (cN x=0)&&dE m vs x
theorem CA(N:Nat)(hN:3000≤N)(m:aw)(vs:List (ByteArray×Int))(ok:Bool)(x:Tr)(hd:Dp 80 x)(hq:KQ x)(hs:aF x≤500)(hL:cN x=0→F1 80 x):
  R N 115 [.ref 0 0,.map 1,.p (.sl [aT x])] [bx (bg ⟨m,ok⟩),.map (smap vs)]=some (.tup [],[bx (bg ⟨m,ok&&ry m vs x⟩),.map (smap vs)]):=by
 have aa:rows 115=_:=Z'.eq_1
 obtain⟨n,rfl⟩:=up N
 rw[aE 115 Tryz.func115 rfl rfl]
 have m1:∀ok a,_:=sA (N:=n) (by omega) m
 have hc:=tI n 80 x hd hq (by omega) (by omega) (by omega)
 simp[aa]
 cases vQ:(ok&&decide (cN x=0))
 ·have e:(ok&&ry m vs x)=false:=by unfold ry;rw[←Bool.and_assoc,vQ];rfl
  rw[e]
  rw[acI 1 (fun _=>true) (fun k=>⟨[(0,.ref 0 0),(1,.map 1),(8,.p (.sl [aT x])),(9,ai 1),(10,ai k)],[bx (bg ⟨m,ok⟩),.map (smap vs)]⟩)
   (fun k=>(.ret,⟨[(0,.ref 0 0),(1,.map 1),(8,.p (.sl [aT x])),(9,ai 1),(10,ai k)],[bx (bg ⟨m,false⟩),.map (smap vs)]⟩)) (by omega) (by simp[aa]) (by
     intro k h K
     obtain rfl:k=0:=by omega
     have ayY:aj ok (decide (cN x=0))=false:=by rw[ak,vQ]
     simp[aa,hc,m1,ayY]) (by simp[aa])]
  simp[rq,List.range_succ]
 ·simp only[Bool.and_eq_true,decide_eq_true_eq] at vQ
  obtain⟨rfl,h0⟩:=vQ
  have hl:=Lk m vs 80 n x true hd (hL h0) (by omega)
  have e:(true&&ry m vs x)=dE m vs x:=by simp[ry,h0]
  rw[e]
  rw[abC 1 (fun k=>⟨[(0,.ref 0 0),(1,.map 1),(8,.p (.sl [aT x])),(9,ai 1),(10,ai k)],[bx (bg ⟨m,if k=0 then true else dE m vs x⟩),.map (smap vs)]⟩) (by omega) (by simp[aa]) (by
     intro k h K
     obtain rfl:k=0:=by omega
     have w1:IntKind.i64.wrap 1=1:=wrap64 (by omega) (by omega)
     simp at hl
     simp[aa,hc,m1,h0,hl,w1]) (by simp[aa])]
  simp
theorem DT(N:Nat)(hN:1≤N)(m:aw)(o:n8)(h:o.kind=1→(0≤o.bank∧o.bank<m.banks.length)∧0<(nth m.banks o.bank).regs.length∧0≤nth (nth m.banks o.bank).regs 0∧nth (nth m.banks o.bank).regs 0<m.regs.length):
  R N 131 [ag (ah m),ag (dI o)] []=some (ai (iP m o),[]):=by
 have aa:rows 131={}:=rfl
 obtain⟨n,rfl⟩:=up N
 rw[aE 131 Tryz.func131 rfl rfl]
 by_cases hk:o.kind=1
 ·obtain⟨⟨h0,h1⟩,h2,h3,h4⟩:=h hk
  obtain⟨b,h5,hx,bI,_⟩:=aR h0 h1
  rw[bI] at h2 h3 h4
  obtain⟨y,hy,dV,_⟩:=ay (k:=0) h2
  have dV:nth b.regs 0=y:=dV
  rw[dV] at h3 h4
  obtain⟨z,h6,hz,Cd,_⟩:=aR h3 h4
  have e:iP m o=z.width:=by simp[iP,hk,cy,bI,dV,Cd]
  rw[e]
  simp[aa,hk,h0,h1,h5,hx,hy,h2,h3,h4,h6,hz]
 ·simp[aa,hk,iP]
theorem ko(N:Nat)(hN:1≤N)(m:aw)(b:Int)(h0:0≤b)(h1:b<m.banks.length)(h2:0<(nth m.banks b).regs.length)(h3:0≤nth (nth m.banks b).regs 0)(h4:nth (nth m.banks b).regs 0<m.regs.length):
  R N 24 [ag (ah m),ai b] []=some (ai (cy m b),[]):=by
 have aa:rows 24={}:=rfl
 obtain⟨n,rfl⟩:=up N
 rw[aE 24 Tryz.func24 rfl rfl]
 obtain⟨bk,h5,hx,bI,_⟩:=aR h0 h1
 rw[bI] at h2 h3 h4
 obtain⟨y,hy,dV,_⟩:=ay (k:=0) h2
 have dV:nth bk.regs 0=y:=dV
 rw[dV] at h3 h4
 obtain⟨z,h6,hz,Cd,_⟩:=aR h3 h4
 have e:cy m b=z.width:=by simp[cy,bI,dV,Cd]
 rw[e]
 simp[aa,h0,h1,h5,hx,hy,h2,h3,h4,h6,hz]
theorem WW{x:Int}(hx:0≤x)(kV:x<18446744073709551616)(k:Nat):IntKind.u64.wrap ((x/2^k).tdiv 2)=x/2^(k+1):=by
 have h0:0≤x/2^k:=Int.ediv_nonneg hx (Int.pow_nonneg (by omega))
 have h1:x/2^k≤x:=Int.ediv_le_self _ hx
 rw[Int.tdiv_eq_ediv_of_nonneg h0,Int.ediv_ediv_of_nonneg (Int.pow_nonneg (by omega)),←Int.pow_succ]<;>try skip
 show IntKind.u64.wrap (x/2^(k+1))=x/2^(k+1)
 have h2:0≤x/2^(k+1):=Int.ediv_nonneg hx (Int.pow_nonneg (by omega))
 have h3:x/2^(k+1)≤x:=Int.ediv_le_self _ hx
 exact f_ h2 (by omega)
theorem R0(N:Nat)(x w:Int)(hx:0≤x)(kV:x<18446744073709551616)(hw:w≤1000)(hN:1002≤N):R N 86 [.p (.int .u64 x),ai w] []=some (ab (decide (x/2^w.toNat=0)),[]):=by
 have aa:rows 86=_:=Ys.eq_1
 obtain⟨n,rfl⟩:=up N
 rw[aE 86 Tryz.func86 rfl rfl]
 simp[aa]
 rw[abC w.toNat (fun k=>⟨[(0,.p (.int .u64 (x/2^k))),(1,ai w),(5,ai k)],[]⟩) (by omega) (by simp[aa]) (by
    intro k h K
    have w1:=aA h (by omega)
    have h':(k:Int)<w:=by omega
    have e:=WW hx kV k
    simp[aa,h',w1,e]) (by
     intro K
     have h':¬(max w 0<w):=by omega
     simp[aa,h'])]
 simp
theorem IN(N:Nat)(x w:Int)(hx:0≤x)(kV:x<18446744073709551616)(hw:w≤1000)(hN:1002≤N):R N 87 [.p (.int .u64 x),ai w] []=some (ai (x/2^w.toNat % 2),[]):=by
 have aa:rows 87=_:=Yr.eq_1
 obtain⟨n,rfl⟩:=up N
 rw[aE 87 Tryz.func87 rfl rfl]
 simp[aa]
 rw[abC w.toNat (fun k=>⟨[(0,.p (.int .u64 (x/2^k))),(1,ai w),(5,ai k)],[]⟩) (by omega) (by simp[aa]) (by
    intro k h K
    have w1:=aA h (by omega)
    have h':(k:Int)<w:=by omega
    have e:=WW hx kV k
    simp[aa,h',w1,e]) (by
     intro K
     have h':¬(max w 0<w):=by omega
     simp[aa,h'])]
 have h0:0≤x/2^w.toNat:=Int.ediv_nonneg hx (Int.pow_nonneg (by omega))
 have e1:(x/2^w.toNat).tmod 2=x/2^w.toNat % 2:=Int.tmod_eq_emod_of_nonneg h0
 have e2:IntKind.u64.wrap (x/2^w.toNat % 2)=x/2^w.toNat % 2:=f_ (by omega) (by omega)
 have e3:IntKind.i64.wrap (x/2^w.toNat % 2)=x/2^w.toNat % 2:=wrap64 (by omega) (by omega)
 simp[e1,e2,e3]
theorem KN(N:Nat)(o:n8)(hN:o.pieces.length+1<N)(hl:o.pieces.length≤1000):R N 110 [ag (dI o)] []=some (ai (bB o.pieces),[]):=by
 have aa:rows 110=_:=aac.eq_1
 obtain⟨n,rfl⟩:=up N
 rw[aE 110 Tryz.func110 rfl rfl]
 simp[aa]
 rw[abC o.pieces.length (fun k=>⟨[(1,.ref 0 0),(3,ai (bB (o.pieces.take k))),(4,ai k)],[bx (dI o)]⟩) (by omega) (by simp[aa,bB]) (by
    intro k h K
    have w1:=aA h (by omega)
    obtain⟨x,hx,_,hm⟩:=ay h
    have e:bB (o.pieces.take (k+1))=IntKind.i64.wrap (bB (o.pieces.take k)+x.len):=by
     unfold bB;rw[List.take_succ_eq_append_getElem h,hx h,List.foldl_append];rfl
    simp[aa,h,hx,w1,e]) (by simp[aa])]
 simp
theorem Av(N:Nat)(w:Int)(hw:w≤60)(hN:100≤N):R N 109 [ai w] []=some (ai (2^w.toNat),[]):=by
 have aa:rows 109=_:=aad.eq_1
 obtain⟨n,rfl⟩:=up N
 rw[aE 109 Tryz.func109 rfl rfl]
 simp[aa]
 rw[abC w.toNat (fun k=>⟨[(0,ai w),(3,ai (2^k)),(4,ai k)],[]⟩) (by omega) (by simp[aa]) (by
    intro k h K
    have w1:=aA h (by omega)
    have h':(k:Int)<w:=by omega
    have hp:(2:Int)^k<2^61:=Int.pow_lt_pow_of_lt (by omega) (by omega)
    have Mu:(0:Int)≤2^k:=Int.pow_nonneg (by omega)
    have e:IntKind.i64.wrap (2*(2:Int)^k)=2^(k+1):=by
     rw[wrap64 (by omega) (by omega),Int.pow_succ,Int.mul_comm]
    simp[aa,h',w1,e]) (by
     intro K
     have h':¬(max w 0<w):=by omega
     simp[aa,h'])]
 simp
def fz(e:jY)(o:Int):Bool:=aj (decide (e.kind=1)) (decide (e.op=o))
def ga(e:jY)(t:Tr):Bool:=aj (aj (decide (e.kind=3)) (decide (e.cond.kind=0))) (aI e.val t)
def dj(m:aw)(c:Conv):Tr:=nh m.address (oa (nth m.regs c.stack).name)
def lJ(c:Conv)(e:jY)(t:Tr):Bool:=aj (aj (fz e (-1)) (decide (e.reg=c.stack))) (aI e.val t)
theorem rY(N:Nat)(hN:1≤N)(e:jY)(o:Int):R N 145 [ag (b_ e),ai o] []=some (ab (fz e o),[]):=by
 have aa:rows 145={}:=rfl
 obtain⟨n,rfl⟩:=up N
 rw[aE 145 Tryz.func145 rfl rfl]
 simp[aa,fz]
theorem ye(N:Nat)(hN:1≤N)(e:jY)(o:Int):R N 102 [ag (b_ e),ai o] []=some (ab (fz e o),[]):=by
 have aa:rows 102={}:=rfl
 obtain⟨n,rfl⟩:=up N
 rw[aE 102 Tryz.func102 rfl rfl]
 simp[aa,fz]
theorem Cu(N:Nat)(hN:1200≤N)(e:jY)(t:Tr)(hd:Dp 80 e.val):R N 156 [ag (b_ e),ag (aC t)] []=some (ab (ga e t),[]):=by
 have aa:rows 156={}:=rfl
 obtain⟨n,rfl⟩:=up N
 rw[aE 156 Tryz.func156 rfl rfl]
 have h:=iM 80 n e.val t hd (by omega)
 simp[aa,h,ga]
theorem Br(N:Nat)(hN:1200≤N)(e:jY)(t:Tr)(hd:Dp 80 e.val):R N 107 [ag (b_ e),ag (aC t)] []=some (ab (ga e t),[]):=by
 have aa:rows 107={}:=rfl
 obtain⟨n,rfl⟩:=up N
 rw[aE 107 Tryz.func107 rfl rfl]
 have h:=c_ 80 n e.val t hd (by omega)
 simp[aa,h,ga]
theorem Aw(N:Nat)(hN:1200≤N)(v:View)(e:jY)(t:Tr)(hd:Dp 80 e.val):R N 158 [ag (aB v),ag (b_ e),ag (aC t)] []=some (ab (lJ v.p.c e t),[]):=by
 have aa:rows 158={}:=rfl
 obtain⟨n,rfl⟩:=up N
 rw[aE 158 Tryz.func158 rfl rfl]
 have h:=iM 80 n e.val t hd (by omega)
 have h2:=rY n (by omega) e (-1)
 simp[aa,h,h2,lJ]
theorem zW(N:Nat)(hN:1≤N)(v:View)(h0:0≤v.p.c.stack)(h1:v.p.c.stack<v.p.m.regs.length)(hn:∀r∈v.p.m.regs,r.name.size≤1000000):
  R N 157 [ag (aB v)] []=some (ag (aC (dj v.p.m v.p.c)),[]):=by
 have aa:rows 157=_:=Z0.eq_1
 obtain⟨n,rfl⟩:=up N
 rw[aE 157 Tryz.func157 rfl rfl]
 obtain⟨x,h2,hx,bI,hm⟩:=aR h0 h1
 have EL:=hn x hm
 have w2:((⟨#[114,46]⟩:ByteArray).size:Int)+(x.name.size:Int)≤9223372036854775807:=by
  have:(⟨#[114,46]⟩:ByteArray).size=2:=rfl
  omega
 have e:dj v.p.m v.p.c=nh v.p.m.address (⟨#[114,46]⟩++x.name):=by unfold dj oa;rw[bI]
 rw[e]
 simp[aa,h0,h1,h2,hx,w2,ae,nh,Tr.kind,Tr.width,Tr.bits,Tr.name,Tr.low,Tr.z,Tr.sub]
theorem PF(N:Nat)(hN:1≤N)(v:View)(i:Int):R N 127 [ag (aB v),ai i] []=some (ab (aj (decide (v.args=[])) (decide (v.ins.effs=[]))),[]):=by
 have aa:rows 127={}:=rfl
 obtain⟨n,rfl⟩:=up N
 rw[aE 127 Tryz.func127 rfl rfl]
 simp[aa]
def e9(l:List Int)(a b c d:Int):Bool:=aj (aj (aj (decide (((bo l (-1)).length:Int)=a)) (decide (((bo l (-2)).length:Int)=b))) (decide (((bo l (-3)).length:Int)=c))) (decide (((bo l (-4)).length:Int)=d))
theorem mL(N:Nat)(hN:1100≤N)(v:View)(a b c d:Int)(hl:v.args.length≤1000):R N 142 [ag (aB v),ai a,ai b,ai c,ai d] []=some (ab (e9 v.args a b c d),[]):=by
 have aa:rows 142={}:=rfl
 obtain⟨n,rfl⟩:=up N
 rw[aE 142 Tryz.func142 rfl rfl]
 have h:=fun x=>FN n v x (by omega) hl
 unfold e9
 by_cases c1:((bo v.args (-1)).length:Int)=a
 ·by_cases c2:((bo v.args (-2)).length:Int)=b
  ·by_cases c3:((bo v.args (-3)).length:Int)=c
   ·simp[aa,h,eq_true c1,eq_true c2,eq_true c3]
   ·simp[aa,h,eq_true c1,eq_true c2,c3]
  ·simp[aa,h,eq_true c1,c2]
 ·simp[aa,h,c1]
theorem pD(N:Nat)(f:Da)(x:Int)(hN:f.t.args.length+1<N)(hl:f.t.args.length≤1000):
  R N 99 [ag (bP f),ai x] []=some (.p (ints (bo f.t.args x)),[]):=by
 have aa:rows 99=_:=Yh.eq_1
 obtain⟨n,rfl⟩:=up N
 rw[aE 99 Tryz.func99 rfl rfl]
 simp -implicitDefEqProofs[aa]
 rw[abC f.t.args.length (fun k=>⟨[(1,ai x),(2,.ref 0 0),(5,.arr 2 (fR f.t.args x k).length 0 (fR f.t.args x k).length),(6,ai k)],
    [bx (bP f),.arr 0 1 false [],.arr (fR f.t.args x k).length 1 false ((fR f.t.args x k).map i64)]⟩) (by omega) (by simp[fR]) (by
    intro k h K
    have w1:=aA h (by omega)
    obtain⟨y,hy,dV,_⟩:=ay h
    have hp:=dQ f.t.args x k
    by_cases e:x=y
    ·have h1:((fR f.t.args x k).length+1)*8≤1099511627776:=by omega
     have h2:(fR f.t.args x k).length+1≤1099511627776:=by omega
     subst e
     simp -implicitDefEqProofs[aa,h,hy,w1,fR,dV,h1,h2]
    ·have e':¬y=x:=fun h=>e h.symm
     simp -implicitDefEqProofs[aa,h,hy,w1,fR,dV,e,e']) (by simp)]
 simp[bo]
theorem UB(N:Nat)(hN:1≤N)(f:Da)(i b:Int)(h0:0≤i)(h1:i<f.s.opds.length):
  R N 101 [ag (bP f),ai i,ai b] []=some (ab (aj (decide ((nth f.s.opds i).kind=1)) (cE (decide (b<0)) (decide ((nth f.s.opds i).bank=b)))),[]):=by
 have aa:rows 101={}:=rfl
 obtain⟨n,rfl⟩:=up N
 rw[aE 101 Tryz.func101 rfl rfl]
 obtain⟨x,h2,hx,bI,_⟩:=aR h0 h1
 rw[bI]
 simp[aa,h0,h1,h2,hx]
theorem H8(N:Nat)(hN:1≤N)(f:Da)(i:Int)(h0:0≤i)(h1:i<f.s.opds.length):
  R N 164 [ag (bP f),ai i] []=some (ab (cE (decide ((nth f.s.opds i).kind=2)) (decide ((nth f.s.opds i).kind=3))),[]):=by
 have aa:rows 164={}:=rfl
 obtain⟨n,rfl⟩:=up N
 rw[aE 164 Tryz.func164 rfl rfl]
 obtain⟨x,h2,hx,bI,_⟩:=aR h0 h1
 rw[bI]
 simp[aa,h0,h1,h2,hx]
theorem Cv(N:Nat)(hN:3≤N)(f:Da)(hw:qa f.m)(i:Int)(h0:0≤i)(h1:i<f.s.opds.length)(ho:Bf f.m (nth f.s.opds i)):
  R N 105 [ag (bP f),ai i] []=some (.agg ((aC (nh (Hy f.m (nth f.s.opds i)) (nth f.s.opds i).name)).map .p),[]):=by
 have aa:rows 105=_:=aag.eq_1
 obtain⟨n,rfl⟩:=up N
 rw[aE 105 Tryz.func105 rfl rfl]
 obtain⟨x,h2,hx,bI,_⟩:=aR h0 h1
 rw[bI] at ho ⊢
 by_cases h:x.kind=1
 ·obtain⟨b0,b1⟩:=ho h
  obtain⟨a,_,c⟩:=hw.bank b0 b1
  obtain⟨y,_,hy,uq⟩:=ay (k:=0) a
  have hy:nth (nth f.m.banks x.bank).regs 0=y:=hy
  have hr:=c y uq
  have EC:=ko n (by omega) f.m x.bank b0 b1 a (by rw[hy];exact hr.1) (by rw[hy];exact hr.2)
  simp[aa,h0,h1,h2,hx,h,EC,Hy,ae,nh,Tr.kind,Tr.width,Tr.bits,Tr.name,Tr.low,Tr.z,Tr.sub]
 ·simp[aa,h0,h1,h2,hx,h,Hy,ae,nh,Tr.kind,Tr.width,Tr.bits,Tr.name,Tr.low,Tr.z,Tr.sub]
theorem Cy(N:Nat)(hN:1≤N)(f:Da)(k:Int)(l:List Tr):
  R N 104 [ag (bP f),.p (.int .u8 k),.p (.sl (l.map aT))] []=some (ag (aC (iR k f.m.address l)),[]):=by
 have aa:rows 104={}:=rfl
 obtain⟨n,rfl⟩:=up N
 rw[aE 104 Tryz.func104 rfl rfl]
 simp[aa,ae,iR,Tr.kind,Tr.width,Tr.bits,Tr.name,Tr.low,Tr.z,Tr.sub]
theorem MH(N:Nat)(hN:200≤N)(c a:Int)(ha:a=16∨a=32)(hc: -9223372036854775808≤c∧c≤9223372036854775807):R N 137 [ai c,ai a] []=some (.p (.int .u64 (c % 2^a.toNat)),[]):=by
 have aa:rows 137={}:=rfl
 obtain⟨n,rfl⟩:=up N
 rw[aE 137 Tryz.func137 rfl rfl]
 have hp:=Av n a (by omega) (by omega)
 have key:∀q:Int,0<q→q≤4294967296→IntKind.u64.wrap ((IntKind.i64.wrap (c.tmod q+q)).tmod q)=c % q:=by
  intro q h0 h1
  have t2:IntKind.i64.wrap (c.tmod q+q)=c.tmod q+q:=by
   have:=Int.tmod_lt_of_pos c h0
   have:=Int.lt_tmod_of_pos c h0
   exact wrap64 (by omega) (by omega)
  rw[t2]
  have t3:(c.tmod q+q).tmod q=c % q:=by
   have h3:=Int.lt_tmod_of_pos c h0
   rw[Int.tmod_eq_emod_of_nonneg (by omega)]
   rw[Int.add_emod_right]
   rw[Int.tmod_def,Int.sub_emod]
   simp
  rw[t3]
  have:=Int.emod_nonneg c (show q≠0 by omega)
  have:=Int.emod_lt_of_pos c h0
  exact f_ (by omega) (by omega)
 rcases ha with rfl|rfl
 ·have k:=key 65536 (by decide) (by decide)
  simp at hp
  simp[aa,hp,k]
 ·have k:=key 4294967296 (by decide) (by decide)
  simp at hp
  simp[aa,hp,k]
theorem AM(N:Nat)(hN:1≤N)(f:Da)(h0:0≤f.c.stack)(h1:f.c.stack<f.m.regs.length)(hn:∀r∈f.m.regs,r.name.size≤1000000):
  R N 108 [ag (bP f)] []=some (ag (aC (dj f.m f.c)),[]):=by
 have aa:rows 108=_:=aae.eq_1
 obtain⟨n,rfl⟩:=up N
 rw[aE 108 Tryz.func108 rfl rfl]
 obtain⟨x,h2,hx,bI,hm⟩:=aR h0 h1
 have EL:=hn x hm
 have w2:((⟨#[114,46]⟩:ByteArray).size:Int)+(x.name.size:Int)≤9223372036854775807:=by
  have:(⟨#[114,46]⟩:ByteArray).size=2:=rfl
  omega
 have e:dj f.m f.c=nh f.m.address (⟨#[114,46]⟩++x.name):=by unfold dj oa;rw[bI]
 rw[e]
 simp[aa,h0,h1,h2,hx,w2,ae,nh,Tr.kind,Tr.width,Tr.bits,Tr.name,Tr.low,Tr.z,Tr.sub]
end Go.En.V
