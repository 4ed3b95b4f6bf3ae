/- Part of the proof of CallingFills: engine, contracts or law, joined by a program from the texts E23b E24 E25 E26 E26b E26c E27 E27b E28 E29 E40 E41 E42 E43 E44 E45 E46 E47 E33 E31 E32. -/
import Derived.Test.YtlcechkalldhfaaGreatDoorKaa
import Derived.Scope
import Derived.RangeFuncRecord
import Derived.Laws.Sem
import Derived.WideShapes
import GoSem.ClaimChange
set_option linter.all false
set_option maxRecDepth 100000
namespace Go.En
open Go.RowKit
section
variable {P:Program} {T:cX} {F:e_} {w w':World} {C C' C1:Cx} {h rd:Hp} {n n':Nat} {L:ct} {fresh:Nat→Bool}
theorem au{α β:Type}{x:Option α}{f:α→Option β}{y:β}(h:aQ x f=some y):∃u,x=some u∧f u=some y:=by
 cases x with
 |none=>cases h
 |some u=>exact⟨u,rfl,h⟩
theorem df{b:Bool}{u:Unit}(h:rG b=some u):b=true:=by
 cases b with
 |true=>rfl
 |false=>cases h
theorem dD{α β:Type}{f:α→Option β}:∀{l:List α} {r:List β},eH f l=some r→r.length=l.length∧∀(k:Nat) (x:α),l[k]? =some x→∃y,r[k]? =some y∧f x=some y
 |[],r,h=>by simp[eH] at h;subst h;simp
 |x::l,r,h=>by
  simp only[eH] at h
  obtain⟨y,h1,h⟩:=au h
  obtain⟨q,h2,h⟩:=au h
  cases h
  obtain⟨h3,h4⟩:=dD h2
  refine⟨by simp[h3],fun k z hz=> ?_⟩
  cases k with
  |zero=>simp at hz;subst hz;exact⟨y,rfl,h1⟩
  |succ k=>simpa using h4 k z (by simpa using hz)
theorem kr{f:AV→Option AV}{l r:List AV}(h:eH f l=some r){k:Nat}(hk:k<l.length):f (l.getD k .undef)=some (r.getD k .undef):=by
 obtain⟨h1,h2⟩:=dD h
 obtain⟨y,h3,h4⟩:=h2 k _ (List.getElem?_eq_getElem hk)
 rw[List.getD_eq_getElem?_getD,List.getElem?_eq_getElem hk,List.getD_eq_getElem?_getD,h3]
 exact h4
theorem sK:∀{W:List Nat} {i j:Nat},idx W i=some j→W[j]? =some i
 |[],_,_,h=>by cases h
 |x::r,i,j,h=>by
  simp only[idx] at h
  split at h
  ·rename_i e;cases h;simp[e]
  ·simp only[Option.map_eq_some_iff] at h
   obtain⟨k,h1,rfl⟩:=h
   simpa using sK h1
structure CW(C C':Cx)(n n':Nat)(π:Nat→Option Nat):Prop where
 M:∀a v,C.M a=some v→C'.M a=some v
 μ:∀id j,π id=some j→id<n→j<n'∧(C'.μ j=C.μ id∨∃r b,C.μ id=.loop r b)
theorem CW.at{π:Nat→Option Nat}(hS:CW C C' n n' π){id j:Nat}(h1:π id=some j)(h2:id<n)(h3:∀r b,C.μ id≠ .loop r b):j<n'∧C'.μ j=C.μ id:=by
 obtain⟨h4,h5|⟨r,b,e⟩⟩:=hS.μ _ _ h1 h2
 ·exact⟨h4,h5⟩
 ·exact absurd e (h3 r b)
theorem xd{π:Nat→Option Nat}(hS:CW C C' n n' π){x y:AV}{v:Value}(h:jw π x=some y)(hr:ar C n x v):ar C' n' y v:=by
 cases x with
 |p x=>simp[jw] at h;subst h;exact .p _ _ ((cn hr).mono hS.M)
 |glob g=>simp[jw] at h;subst h;cases hr with|glob _=>exact .glob _
 |undef=>simp[jw] at h;subst h;exact .undef _
 |ref id off=>
  simp only[jw,Option.map_eq_some_iff] at h
  obtain⟨j,h1,rfl⟩:=h
  cases hr with
  |ref _ _ B h2 h3=>obtain⟨h4,h5⟩:=hS.at h1 h2 (by rw[h3];simp);exact .ref _ _ B h4 (by rw[h5];exact h3)
 |arr id g off len=>
  simp only[jw,Option.map_eq_some_iff] at h
  obtain⟨j,h1,rfl⟩:=h
  cases hr with
  |arr _ _ _ _ B o cap sz a h2 h3 h4 h5=>obtain⟨h6,h7⟩:=hS.at h1 h2 (by rw[h3];simp);exact .arr _ _ _ _ B o cap sz a h6 (by rw[h7];exact h3) h4 h5
  |arrN _ _ h2 h3=>obtain⟨h6,h7⟩:=hS.at h1 h2 (by rw[h3];simp);exact .arrN _ _ h6 (by rw[h7];exact h3)
  |arrS _ _ _ _ g' a cap h2 h3 h4=>obtain⟨h6,h7⟩:=hS.at h1 h2 (by intro r b e;rw[e] at h3;simp[Cn.gen] at h3);exact .arrS _ _ _ _ g' _ _ h6 (by rw[h7];exact h3) h4
 |elt id g i off=>
  simp only[jw,Option.map_eq_some_iff] at h
  obtain⟨j,h1,rfl⟩:=h
  cases hr with
  |elt _ _ _ _ B o cap sz h2 h3=>obtain⟨h6,h7⟩:=hS.at h1 h2 (by rw[h3];simp);exact .elt _ _ _ _ B o cap sz h6 (by rw[h7];exact h3)
  |eltS _ _ _ _ g' B o h2 h3 h4=>obtain⟨h6,h7⟩:=hS.at h1 h2 (by intro r b e;rw[e] at h3;simp[Cn.gen] at h3);exact .eltS _ _ _ _ g' B o h6 (by rw[h7];exact h3) h4
 |map id=>
  simp only[jw,Option.map_eq_some_iff] at h
  obtain⟨j,h1,rfl⟩:=h
  cases hr with
  |map _ r h2 h3=>obtain⟨h6,h7⟩:=hS.at h1 h2 (by rw[h3];simp);exact .map _ r h6 (by rw[h7];exact h3)
 |_=>cases h
theorem oj{π:Nat→Option Nat}(hS:CW C C' n n' π){x y:AV}{v:Value}(h:ir π x=some y)(hr:ar C n x v):ar C' n' y v:=by
 cases x with
 |agg cs=>
  simp only[ir,Option.map_eq_some_iff] at h
  obtain⟨l,h1,rfl⟩:=h
  cases hr with
  |agg _ vs h2 h3=>
   have hl:=(dD h1).1
   exact .agg _ _ (by omega) (fun k hk=>xd hS (kr h1 (by omega)) (h3 k (by omega)))
 |fn f cs=>
  simp only[ir,Option.map_eq_some_iff] at h
  obtain⟨l,h1,rfl⟩:=h
  cases hr with
  |fn _ _ vs h2 h3=>
   have hl:=(dD h1).1
   exact .fn _ _ _ (by omega) (fun k hk=>xd hS (kr h1 (by omega)) (h3 k (by omega)))
 |_=>exact xd hS (by simpa only[ir] using h) hr
theorem DN{π:Nat→Option Nat}(hS:CW C C' n n' π){x y:AV}{v:Value}(h:tU π x=some y)(hr:ar C n x v):ar C' n' y v:=by
 cases x with
 |tup cs=>
  simp only[tU,Option.map_eq_some_iff] at h
  obtain⟨l,h1,rfl⟩:=h
  cases hr with
  |tup _ vs h2 h3=>
   have hl:=(dD h1).1
   exact .tup _ _ (by omega) (fun k hk=>oj hS (kr h1 (by omega)) (h3 k (by omega)))
 |_=>exact oj hS (by simpa only[tU] using h) hr
theorem OL{π:Nat→Option Nat}{x y:AV}(h:jw π x=some y):y.one=x.one:=by
 cases x<;>simp only[jw,Option.map_eq_some_iff,Option.some.injEq] at h<;>first
  |(subst h;rfl)
  |(obtain⟨j,_,rfl⟩:=h;rfl)
  |cases h
theorem OK{π:Nat→Option Nat}{x y:AV}(h:ir π x=some y):y.one=x.one:=by
 cases x with
 |agg cs=>simp only[ir,Option.map_eq_some_iff] at h;obtain⟨l,_,rfl⟩:=h;rfl
 |fn f cs=>simp only[ir,Option.map_eq_some_iff] at h;obtain⟨l,_,rfl⟩:=h;rfl
 |_=>exact OL (by simpa only[ir] using h)
theorem DO{π:Nat→Option Nat}(hS:CW C C' n n' π){o o':Obj}{c:Cn}(h:iq π o=some o')(hr:kn C n w c o):kn C' n' w c o':=by
 cases o with
 |dead=>simp[iq] at h;subst h;cases c<;>exact trivial
 |arr g sz sh es=>
  simp[iq] at h;subst h
  cases c with
  |arr g' B o cap i4=>
   obtain⟨h1,h2,h3,h4,h5,c,T,h6,h7,h8⟩:=hr
   exact⟨h1,h2,h3,h4,h5,c,T,h6,h7,fun k hk=>⟨(h8 k hk).1.mono hS.M,(h8 k hk).2⟩⟩
  |nil g=>exact hr
  |none=>exact trivial
  |_=>exact hr.elim
 |map es=>
  simp[iq] at h;subst h
  cases c with
  |map r=>
   obtain⟨en,cl,h1,h2,h3⟩:=hr
   refine⟨en,cl,h1,h2,fun k e hk=> ?_⟩
   obtain⟨p,hp,h4,h5⟩:=h3 k e hk
   exact⟨p,hp,h4.mono hS.M,h5.mono hS.M⟩
  |none=>exact trivial
  |_=>exact hr.elim
 |box cs=>
  simp only[iq,Option.map_eq_some_iff] at h
  obtain⟨l,h1,rfl⟩:=h
  cases c with
  |box B=>
   obtain⟨c,T,h2,h3,h4,h5⟩:=hr
   have hl:=(dD h1).1
   refine⟨c,T,h2,by omega, ?_,fun k hk=>oj hS (kr h1 (by omega)) (h5 k (by omega))⟩
   simp only[List.all_eq_true] at h4 ⊢
   intro y hy
   obtain⟨k,hk,rfl⟩:=List.getElem_of_mem hy
   have bT:k<cs.length:=by omega
   obtain⟨z,h6,h7⟩:=(dD h1).2 k _ (List.getElem?_eq_getElem bT)
   rw[List.getElem?_eq_getElem hk] at h6
   cases h6
   rw[OK h7]
   exact h4 _ (List.getElem_mem bT)
  |none=>exact trivial
  |_=>exact hr.elim
 |loop st f l tm=>cases h
def qB:Cn→Cn
 | .loop _ _=>.none
 |c=>c
theorem tE(c:Cn):qB c=c∨∃r b,c=.loop r b:=by
 cases c<;>first|exact .inl rfl|exact .inr ⟨_,_,rfl⟩
theorem kD{c:Cn}{B:Nat}(h:(qB c).blk=some B):qB c=c∧c.blk=some B:=by
 cases c<;>first|exact⟨rfl,h⟩|cases h
theorem GQ{o o':Obj}{c:Cn}{π:Nat→Option Nat}(h:iq π o=some o')(hr:kn C' n' w c o')(AF:kn C n w c o):kn C' n' w (qB c) o':=by
 cases c with
 |loop r b=>
  cases o with
  |dead=>simp[iq] at h;subst h;exact trivial
  |loop=>cases h
  |_=>exact AF.elim
 |_=>exact hr
theorem KH{o o':Obj}{π:Nat→Option Nat}{r b:Nat}(h:iq π o=some o')(hr:kn C n w (.loop r b) o):kn C' n' w (.loop r b) o':=by
 cases o with
 |dead=>simp[iq] at h;subst h;exact trivial
 |loop=>cases h
 |_=>exact hr.elim
def qC(C:Cx)(W:List Nat):Cx:={C with μ:=fun j=>match W[j]? with|some id=>qB (C.μ id)|none=>.none}
theorem Bt{W:List Nat}{j id:Nat}(h:W[j]? =some id):(qC C W).μ j=qB (C.μ id):=by simp[qC,h]
theorem xx:∀{W:List Nat},fL W=true→W.Nodup
 |[],_=>List.nodup_nil
 |x::r,h=>by
  simp only[fL,Bool.and_eq_true,Bool.not_eq_true',List.contains_eq_mem,decide_eq_false_iff_not] at h
  exact List.nodup_cons.2 ⟨h.1,xx h.2⟩
theorem Ao{W:List Nat}(h:W.Nodup){i j id:Nat}(h1:W[i]? =some id)(h2:W[j]? =some id):i=j:=by
 have hi:=(List.getElem?_eq_some_iff.1 h1).1
 have hj:=(List.getElem?_eq_some_iff.1 h2).1
 have e1:W[i]=id:=(List.getElem?_eq_some_iff.1 h1).2
 have e2:W[j]=id:=(List.getElem?_eq_some_iff.1 h2).2
 exact(List.getElem_inj h).1 (e1.trans e2.symm)
section
variable {W:List Nat} {h':Hp}
theorem wN(bW:∀id∈W,id<h.length):CW C (qC C W) h.length W.length (idx W):=
 ⟨fun _ _ e=>e,fun id j e _=>⟨(List.getElem?_eq_some_iff.1 (sK e)).1,by
   rw[Bt (sK e)];exact tE _⟩⟩
theorem Mem.sub(hm:Mem F C h w)(hW:eH (iq (idx W)) (W.map h.at)=some h')(bW:∀id∈W,id<h.length)(fW:W.Nodup):
  Mem ⟨w,j8 (qC C W) h',C.M⟩ (qC C W) h' w∧h'.length=W.length:=by
 obtain⟨hl,hg⟩:=dD hW
 have hl:h'.length=W.length:=by simpa using hl
 have get:∀j,j<h'.length→∃id,W[j]? =some id∧id<h.length∧(qC C W).μ j=qB (C.μ id):=fun j hj=>by
  have iO:j<W.length:=by omega
  exact⟨W[j],List.getElem?_eq_getElem iO,bW _ (List.getElem_mem iO),Bt (List.getElem?_eq_getElem iO)⟩
 have objs:∀j id,W[j]? =some id→iq (idx W) (h.at id)=some (Hp.at h' j):=fun j id e=>by
  obtain⟨y,h1,h2⟩:=hg j (h.at id) (by simp[e])
  rw[h2];simp[Hp.at,h1]
 refine⟨⟨fun j hj=> ?_,hm.prot,fun _ _ e=>.inr (.inr e),fun j B hj e a v hv eV=> ?_,fun i j B hi hj e1 e2=> ?_,fun j B hj e=> ?_,hm.kept,fun B o e j hj e'=> ?_,fun j r b hj e=> ?_,
  ⟨rfl,rfl,rfl,Nat.le_refl _,fun _ _ _=>rfl⟩,hm.gl⟩,hl⟩
 ·obtain⟨id,h1,h2,h3⟩:=get j hj
  rw[h3,hl]
  have h0:=hm.objs id h2
  rcases tE (C.μ id) with e|⟨r,b,e⟩
  ·rw[e];exact DO (wN bW) (objs j id h1) h0
  ·rw[e] at h0
   have:=GQ (C':=qC C W) (n':=W.length) (objs j id h1) (KH (objs j id h1) h0) h0
   rw[e];exact this
 ·obtain⟨id,h1,h2,h3⟩:=get j hj
  rw[h3] at e ⊢
  obtain⟨e4,e5⟩:=kD e
  rw[e4]
  obtain⟨g,o,cap,sz,es,k1,k2,k3⟩:=hm.sep id B h2 e5 a v hv eV
  refine⟨g,o,cap,sz,es,k1, ?_,k3⟩
  have:=objs j id h1
  rw[k2] at this
  simp[iq] at this
  exact this.symm
 ·obtain⟨a,h1,h2,h3⟩:=get i hi
  obtain⟨b,h4,h5,h6⟩:=get j hj
  rw[h3] at e1;rw[h6] at e2
  have:=hm.inj a b B h2 h5 (kD e1).2 (kD e2).2
  subst this
  exact Ao fW h1 h4
 ·obtain⟨id,h1,h2,h3⟩:=get j hj
  have e0:=e
  rw[h3] at e
  exact⟨(hm.lt id B h2 (kD e).2).1,.inl ⟨j,hj,e0⟩⟩
 ·obtain⟨id,h1,h2,h3⟩:=get j hj
  rw[h3] at e'
  exact hm.ksep B o e id h2 (kD e').2
 ·obtain⟨id,h1,h2,h3⟩:=get j hj
  rw[h3] at e
  cases hc:C.μ id<;>rw[hc] at e<;>cases e
def qm(C C1:Cx)(W:List Nat)(n:Nat):Cx:=
 {C with M:=C1.M,μ:=fun i=>if i<n then(match idx W i with|some j=>C1.μ j|none=>C.μ i) else C1.μ (W.length+(i-n))}
theorem EA:∀{W:List Nat} {i:Nat},idx W i=none→i ∉ W
 |[],_,_=>by simp
 |x::r,i,h=>by
  simp only[idx] at h
  split at h
  ·cases h
  ·rename_i e
   simp only[Option.map_eq_none_iff] at h
   simp only[List.mem_cons,not_or]
   exact⟨fun e'=>e e'.symm,EA h⟩
theorem acy{W:List Nat}{i j:Nat}(fW:W.Nodup)(h:W[j]? =some i):idx W i=some j:=by
 cases e:idx W i with
 |none=>exact absurd (List.mem_of_getElem? h) (EA e)
 |some k=>rw[Ao fW (sK e) h]
theorem cC:∀{W:List Nat} {h:Hp} {r:List Obj},(eY h W r).length=h.length
 |[],h,r=>by cases r<;>rfl
 |x::W,h,[]=>rfl
 |x::W,h,o::r=>by simp only[eY];rw[cC];simp
theorem gM:∀{W:List Nat} {h:Hp} {r:List Obj} {i:Nat},i ∉ W→(eY h W r).at i=h.at i
 |[],h,r,i,_=>by cases r<;>rfl
 |x::W,h,[],i,_=>rfl
 |x::W,h,o::r,i,hi=>by
  simp only[List.mem_cons,not_or] at hi
  simp only[eY]
  rw[gM hi.2]
  simp[Hp.at,Ne.symm hi.1]
theorem v9:∀{W:List Nat} {h:Hp} {r:List Obj} {i j:Nat},W.Nodup→W[j]? =some i→i<h.length→j<r.length→(eY h W r).at i=(r[j]?).getD .dead
 |x::W,h,[],i,j,_,_,_,hj=>by simp at hj
 |x::W,h,o::r,i,j,fW,h1,hi,hj=>by
  obtain⟨hx,fW⟩:=List.nodup_cons.1 fW
  simp only[eY]
  cases j with
  |zero=>
   simp at h1;subst h1
   rw[gM hx]
   simp[Hp.at,hi]
  |succ j=>
   have h2:W[j]? =some i:=by simpa using h1
   rw[v9 fW h2 (by simpa using hi) (by simpa using hj)]
   simp
theorem A5{c:Cn}{o:Obj}(ha:gU o=true)(hr:kn C n w c o):∀r b,c≠ .loop r b:=by
 intro r b e
 subst e
 cases o<;>first|exact hr.elim|simp[gU] at ha
theorem uf{i j n:Nat}(fW:W.Nodup)(h1:W[j]? =some i)(hi:i<n):(qm C C1 W n).μ i=C1.μ j:=by
 show(if i<n then _ else _)=_
 rw[if_pos hi,acy fW h1]
theorem ra{i n:Nat}(h1:i ∉ W)(hi:i<n):(qm C C1 W n).μ i=C.μ i:=by
 show(if i<n then _ else _)=_
 rw[if_pos hi]
 cases e:idx W i with
 |none=>rfl
 |some j=>exact absurd (List.mem_of_getElem? (sK e)) h1
theorem AB{i n:Nat}(hi:¬i<n):(qm C C1 W n).μ i=C1.μ (W.length+(i-n)):=by
 show(if i<n then _ else _)=_
 rw[if_neg hi]
theorem ue{h2:Hp}{m:Nat}(fW:W.Nodup)(bW:∀id∈W,id<h.length)(hmm:h2.length=W.length∨m=h.length):CW C1 (qm C C1 W h.length) h2.length (h.length+(h2.length-W.length)) (back W m):=by
 refine⟨fun _ _ e=>e,fun j i e hj=> ?_⟩
 unfold back at e
 split at e
 ·rename_i id h1
  cases e
  have hi:=bW _ (List.mem_of_getElem? h1)
  exact⟨by omega,.inl (uf fW h1 hi)⟩
 ·rename_i h1
  cases e
  have:W.length≤j:=List.getElem?_eq_none_iff.1 h1
  obtain rfl:m=h.length:=by omega
  refine⟨by omega,.inl ?_⟩
  rw[AB (by omega)]
  congr 1;omega
theorem Mem.unsub{m:Nat}(hm:Mem F C h w)(fW:W.Nodup)(bW:∀id∈W,id<h.length)(jc:∀id∈W,gU (h.at id)=true){h0 r2 h2:Hp}(Un:h0.length=W.length)
  (hx:Ext h0.length (qC C W) C1)(hK:C1.K=C.K)(hc:Mem ⟨w,j8 (qC C W) h0,C.M⟩ C1 r2 w')(hle:W.length≤r2.length)(aCl:W.length≤h.length)(Rz:(r2.take W.length).all gU=true)
  (hmm:r2.length=W.length∨m=h.length)(hb:eH (iq (back W m)) r2=some h2):
  Mem F (qm C C1 W h.length) (eY h W h2++h2.drop W.length) w'∧Ext h.length C (qm C C1 W h.length):=by
 obtain⟨Ly,hg⟩:=dD hb
 have xX:CW C1 (qm C C1 W h.length) r2.length (h.length+(r2.length-W.length)) (back W m):=ue fW bW hmm
 have hlen:(eY h W h2++h2.drop W.length).length=h.length+(r2.length-W.length):=by simp[cC,Ly]
 have abN:∀id,id∈W→∀r b,C.μ id≠ .loop r b:=fun id aH=>A5 (jc id aH) (hm.objs id (bW id aH))
 have sub_eq:∀j id,W[j]? =some id→(qC C W).μ j=C.μ id:=fun j id e=>by
  rw[Bt e]
  rcases tE (C.μ id) with e1|⟨r,b,e1⟩
  ·exact e1
  ·exact absurd e1 (abN id (List.mem_of_getElem? e) r b)
 have TM:∀j,j<W.length→∀r b,C1.μ j≠ .loop r b:=fun j hj=>by
  have zo:j<r2.length:=by omega
  have ha:gU (Hp.at r2 j)=true:=by
   simp only[List.all_eq_true] at Rz
   have:=Rz (r2[j]) (by
    rw[List.mem_iff_getElem]
    exact⟨j,by simp;omega,by simp⟩)
   simpa [Hp.at,zo] using this
  exact A5 ha (hc.objs j zo)
 have H0:Ext h.length C (qm C C1 W h.length):=by
  refine⟨fun a v e=>hx.M a v e,fun _ _ e=>e,fun _ _ e=>e,rfl,fun i hi=> ?_⟩
  by_cases hw:i∈W
  ·obtain⟨j,hj,e⟩:=List.getElem_of_mem hw
   have iO:W[j]? =some i:=by rw[List.getElem?_eq_getElem hj,e]
   rw[uf fW iO hi]
   have:=hx.μ j (by omega)
   rw[sub_eq j i iO] at this
   exact this
  ·rw[ra hw hi];exact .inl rfl
 have src:∀i,i<h.length+(r2.length-W.length)→
   (∃j,j<r2.length∧(j<W.length∨j≤i)∧(qm C C1 W h.length).μ i=C1.μ j∧back W m j=some i∧iq (back W m) (Hp.at r2 j)=some ((eY h W h2++h2.drop W.length).at i))∨
   (i<h.length∧i ∉ W∧(qm C C1 W h.length).μ i=C.μ i∧(eY h W h2++h2.drop W.length).at i=h.at i):=by
  intro i hi
  have obj:∀j,j<r2.length→∀o,h2[j]? =some o→iq (back W m) (Hp.at r2 j)=some o:=fun j hj o ho=>by
   obtain⟨y,h3,h4⟩:=hg j _ (List.getElem?_eq_getElem hj)
   rw[ho] at h3
   cases h3
   simpa [Hp.at,hj] using h4
  by_cases zp:i<h.length
  ·have e1:(eY h W h2++h2.drop W.length).at i=(eY h W h2).at i:=by
    simp[Hp.at,List.getElem?_append_left (show i<(eY h W h2).length by rw[cC];exact zp)]
   rw[e1]
   by_cases hw:i∈W
   ·obtain⟨j,hj,e⟩:=List.getElem_of_mem hw
    have iO:W[j]? =some i:=by rw[List.getElem?_eq_getElem hj,e]
    refine .inl ⟨j,by omega,.inl hj,uf fW iO zp,by simp[back,iO], ?_⟩
    have zo:j<h2.length:=by omega
    rw[v9 fW iO zp zo,List.getElem?_eq_getElem zo]
    exact obj j (by omega) _ (List.getElem?_eq_getElem zo)
   ·exact .inr ⟨zp,hw,ra hw zp,gM hw⟩
  ·refine .inl ⟨W.length+(i-h.length),by omega,.inr (by omega),AB zp, ?_, ?_⟩
   ·have:W[W.length+(i-h.length)]? =none:=List.getElem?_eq_none (by omega)
    simp only[back,this,Option.some.injEq];omega
   ·have zo:W.length+(i-h.length)<h2.length:=by omega
    have e1:(eY h W h2++h2.drop W.length).at i=(h2[W.length+(i-h.length)]?).getD .dead:=by
     simp[Hp.at,List.getElem?_append_right (show(eY h W h2).length≤i by rw[cC];omega),cC]
    rw[e1,List.getElem?_eq_getElem zo]
    exact obj _ (by omega) _ (List.getElem?_eq_getElem zo)
 have owned:∀B,j8 (qC C W) h0 B→∃id,id∈W∧(C.μ id).blk=some B:=fun B ⟨j,hj,e⟩=>by
  have iO:j<W.length:=by omega
  have hg:W[j]? =some W[j]:=List.getElem?_eq_getElem iO
  rw[sub_eq j _ hg] at e
  exact⟨W[j],List.getElem_mem iO,e⟩
 have abu:∀B,j8 (qC C W) h0 B→B<w.heap.size∧(F.S B∨F.w0.heap.size≤B):=fun B hB=>by
  obtain⟨id,h3,h4⟩:=owned B hB
  exact hm.lt id B (bW id h3) h4
 have JO:∀i B,i<h.length→i ∉ W→(C.μ i).blk=some B→B<w.heap.size∧¬j8 (qC C W) h0 B:=fun i B hi hw e=>by
  refine⟨(hm.lt i B hi e).1,fun hB=> ?_⟩
  obtain⟨id,h3,h4⟩:=owned B hB
  have:=hm.inj i id B hi (bW id h3) e h4
  subst this
  exact hw h3
 refine⟨⟨fun i hi=> ?_,hc.prot,fun a v e=> ?_,fun i B hi e a v hv eV=> ?_,fun i k B hi hk e1 e2=> ?_,fun i B hi e=> ?_,fun B o e=>hc.kept B o (e.imp (fun e=>by rw[hK];exact e) (fun ⟨m,c,e,e2⟩=>⟨m,c,hx.I _ _ e,e2⟩)),fun B o e i hi e'=> ?_,fun i r b hi e=> ?_, ?_,
  hm.gl.mono H0.M H0.L⟩,H0⟩
 ·rw[hlen] at hi ⊢
  rcases src i hi with⟨j,h3,_,h4,_,h5⟩|⟨h3,h4,h5,h6⟩
  ·rw[h4]
   exact DO xX h5 (hc.objs j h3)
  ·rw[h5,h6]
   exact(hm.objs i h3).mono H0 (by omega) (fun B e=>hc.fr.block B (JO i B h3 h4 e).1 (JO i B h3 h4 e).2)
 ·rcases hc.src a v e with h1|h1|h1
  ·exact .inl (Nat.le_trans hm.fr.size h1)
  ·rcases (abu _ h1).2 with h2|h2
   ·exact .inr (.inl h2)
   ·exact .inl h2
  ·exact hm.src a v h1
 ·rw[hlen] at hi
  rcases src i hi with⟨j,h3,_,h4,_,h5⟩|⟨h3,h4,h5,h6⟩
  ·rw[h4] at e ⊢
   obtain⟨g,o,cap,sz,es,k1,k2,k3⟩:=hc.sep j B h3 e a v hv eV
   refine⟨g,o,cap,sz,es,k1, ?_,k3⟩
   rw[k2] at h5
   simp[iq] at h5
   exact h5.symm
  ·rw[h5] at e ⊢
   rw[h6]
   obtain⟨k1,k2⟩:=JO i B h3 h4 e
   rcases hc.src a v hv with h1|h1|h1
   ·have:w.heap.size≤a.block:=h1
    omega
   ·rw[eV] at h1;exact absurd h1 k2
   ·exact hm.sep i B h3 e a v h1 eV
 ·rw[hlen] at hi hk
  have mix:∀(j k:Nat),j<r2.length→(C1.μ j).blk=some B→k<h.length→k ∉ W→(C.μ k).blk=some B→False:=fun j k hj e1 hk hw e2=>by
   obtain⟨k1,k2⟩:=JO k B hk hw e2
   rcases (hc.lt j B hj e1).2 with h1|h1
   ·exact k2 h1
   ·have:w.heap.size≤B:=h1
    omega
  rcases src i hi with⟨j,h3,_,h4,nY,_⟩|⟨h3,h4,h5,_⟩<;>rcases src k hk with⟨j',Cs,_,RO,p9,_⟩|⟨Cs,RO,XH,_⟩
  ·rw[h4] at e1;rw[RO] at e2
   have:=hc.inj j j' B h3 Cs e1 e2
   subst this
   rw[nY] at p9
   exact Option.some.inj p9
  ·rw[h4] at e1;rw[XH] at e2
   exact(mix j k h3 e1 Cs RO e2).elim
  ·rw[h5] at e1;rw[RO] at e2
   exact(mix j' i Cs e2 h3 h4 e1).elim
  ·rw[h5] at e1;rw[XH] at e2
   exact hm.inj i k B h3 Cs e1 e2
 ·rw[hlen] at hi
  rcases src i hi with⟨j,h3,_,h4,_,_⟩|⟨h3,h4,h5,_⟩
  ·rw[h4] at e
   obtain⟨g1,g2⟩:=hc.lt j B h3 e
   refine⟨g1, ?_⟩
   rcases g2 with g2|g2
   ·exact(abu _ g2).2
   ·exact .inr (Nat.le_trans hm.fr.size g2)
  ·rw[h5] at e
   obtain⟨g1,g2⟩:=hm.lt i B h3 e
   exact⟨Nat.lt_of_lt_of_le g1 hc.fr.size,g2⟩
 ·rw[hlen] at hi
  rcases src i hi with⟨j,h3,_,h4,_,_⟩|⟨h3,h4,h5,_⟩
  ·rw[h4] at e'
   exact hc.ksep B o (e.imp (fun e=>by rw[hK];exact e) (fun ⟨m,c,e,e2⟩=>⟨m,c,hx.I _ _ e,e2⟩)) j h3 e'
  ·rw[h5] at e'
   exact hm.ksep B o e i h3 e'
 ·rw[hlen] at hi
  rcases src i hi with⟨j,h3,h0,h4,_,_⟩|⟨h3,h4,h5,_⟩
  ·rw[h4] at e
   rcases h0 with h0|h0
   ·exact absurd e (TM j h0 r b)
   ·exact Nat.le_trans (hc.bnd j r b h3 e) h0
  ·rw[h5] at e
   exact hm.bnd i r b h3 e
 ·refine⟨hc.fr.os.trans hm.fr.os,hc.fr.tape.trans hm.fr.tape,hc.fr.output.trans hm.fr.output,Nat.le_trans hm.fr.size hc.fr.size,fun k hk hs=> ?_⟩
  rw[←hm.fr.block k hk hs]
  refine hc.fr.block k (Nat.lt_of_lt_of_le hk hm.fr.size) (fun h1=> ?_)
  rcases (abu _ h1).2 with h2|h2
  ·exact hs h2
  ·omega
theorem QA{call:ei}{f:Nat}{bs:List AV}{vs:Array Value}{r:AV×Hp}(gR:∀f as h r,call f as h=some r→dq L fresh P f as h r)(hL:C.L=L)(hm:Mem F C h w)(hs:vs.size=bs.length)
  (hr:∀k,k<bs.length→ar C h.length (bs.getD k .undef) (vs.getD k Go.undef))(he:cJ call f bs h=some r):
  Calls P f vs w fun
   | .returned u,w'=>∃C',Ext h.length C C'∧Mem F C' r.2 w'∧ar C' r.2.length r.1 u
   |_,_=>False:=by
 unfold cJ at he
 obtain⟨_,h1,he⟩:=au he
 have h1:=df h1
 simp only[Bool.and_eq_true] at h1
 obtain⟨h1,h2⟩:=h1
 have fW:=xx h1
 simp only[List.all_eq_true,Bool.and_eq_true,decide_eq_true_eq] at h2
 obtain⟨UZ,h3,he⟩:=au he
 obtain⟨h',h4,he⟩:=au he
 obtain⟨q,h5,he⟩:=au he
 obtain⟨_,h6,he⟩:=au he
 have h6:=df h6
 simp only[Bool.and_eq_true,decide_eq_true_eq] at h6
 obtain⟨v,h7,he⟩:=au he
 obtain⟨p_,h8,he⟩:=au he
 cases he
 generalize reach h bs=W at*
 have bW:∀id∈W,id<h.length:=fun id aH=>(h2 id aH).1
 obtain⟨hms,hl⟩:=hm.sub h4 bW fW
 have aV:=gR _ _ _ _ h5
 have Sb:=(dD h3).1
 refine(aV.calls w (qC C W) vs hL hms (by omega) (fun k hk=> ?_)).mono fun e w' he=> ?_
 ·rw[hl]
  exact oj (wN bW) (kr h3 (by omega)) (hr k (by omega))
 ·cases e with
  |returned u=>
   obtain⟨C1,g1,g2,g3,g4,_⟩:=he
   obtain⟨g5,g6⟩:=hm.unsub fW bW (fun id aH=>(h2 id aH).2) hl g1 g2 g3 h6.1.1 h6.1.2 h6.2 (.inr rfl) h8
   refine⟨_,g6,g5, ?_⟩
   have hlen:(eY h W p_++p_.drop W.length).length=h.length+(q.2.length-W.length):=by simp[cC,(dD h8).1]
   rw[hlen]
   exact DN (ue fW bW (.inr rfl)) h7 g4
  |panicked _=>exact he.elim
  |outgrown=>exact he.elim
theorem Dy{call:ei}{f:Nat}{bs:List AV}{r:AV×Hp}(he:cJ call f bs h=some r):(∃UZ h' q,call f UZ h'=some q)∧h.length≤r.2.length:=by
 unfold cJ at he
 obtain⟨_,h1,he⟩:=au he
 obtain⟨UZ,h3,he⟩:=au he
 obtain⟨h',h4,he⟩:=au he
 obtain⟨q,h5,he⟩:=au he
 obtain⟨_,h6,he⟩:=au he
 obtain⟨v,h7,he⟩:=au he
 obtain⟨p_,h8,he⟩:=au he
 cases he
 exact⟨⟨_,_,_,h5⟩,by simp[cC]⟩
theorem FE{call:ei}{f:Nat}{as:List AV}{r:AV×Hp}{mu:Bool}(gR:∀f as h r,call f as h=some r→dq L fresh P f as h r)(jb:s6 call f (dS mu h as) (share h (bO mu as))=some r):
  (∃fn,P.funcs[f]? =some fn∧fn.body.isNone=false∧(fn.name== "runtime.NumGoroutine")=false)∧h.length≤r.2.length∧
  ∀{F:e_} {C:Cx} {w:World} {vs:Array Value},C.L=L→Mem F C h w→vs.size=as.length→(∀k,k<as.length→ar C h.length (as.getD k .undef) (vs.getD k Go.undef))→
   Calls P f vs w fun
    | .returned u,w'=>∃C',Ext h.length C C'∧Mem F C' r.2 w'∧ar C' r.2.length r.1 u
    |_,_=>False:=by
 have hl:=aY (h:=h) (bO mu as)
 unfold s6 at jb
 split at jb
 ·have aV:=gR _ _ _ _ jb
  exact⟨aV.fn,by rw[←hl];exact aV.len,fun hL hm hs hr=>L1 hL hm hs hr aV⟩
 ·obtain⟨⟨UZ,h',q,h1⟩,h2⟩:=Dy jb
  refine⟨(gR _ _ _ _ h1).fn,by omega,fun {F C w vs} hL hm hs hr=> ?_⟩
  obtain⟨k1,k2⟩:=yP hm (fun _ _=>rfl) hs hr mu
  refine(QA (C:=C.withM (shown C h (bO mu as) w)) gR hL (hm.share (bO mu as)) k1 (fun k hk=>by rw[hl];exact k2 k hk) jb).mono fun e w' he=> ?_
  cases e with
  |returned u=>
   obtain⟨C1,h3,h4,h5⟩:=he
   rw[hl] at h3
   exact⟨C1,(fQ _ _).trans h3,h4,h5⟩
  |panicked _=>exact he.elim
  |outgrown=>exact he.elim
end
end
end Go.En
namespace Go.En
open Go.RowKit
section
variable {P:Program} {T:cX} {F:e_} {w w':World} {C C':Cx} {h rd:Hp} {n:Nat} {tm lq:Tm}
variable {ops:Array Oper} {o:Oper} {a:Act} {g:Option Bool}
theorem nI{op:Op}{f:Operand}{l:List Operand}(hc:eJ op=some (f,l)):∃c,op=.call c∧c.callee=.value f∧l=c.args.toList:=by
 unfold eJ at hc
 split at hc
 ·rename_i c
  split at hc
  ·rename_i f' e
   cases hc
   exact⟨c,rfl,e,rfl⟩
  ·cases hc
 ·cases hc
theorem CS{xs ys:Array Value}{as bs:List AV}(h1:xs.size=as.length)(h2:∀k,k<as.length→ar C n (as.getD k .undef) (xs.getD k Go.undef))(h3:ys.size=bs.length)(h4:∀k,k<bs.length→ar C n (bs.getD k .undef) (ys.getD k Go.undef)):
  (xs++ys).size=(as++bs).length∧∀k,k<(as++bs).length→ar C n ((as++bs).getD k .undef) ((xs++ys).getD k Go.undef):=by
 refine⟨by simp[h1,h3],fun k hk=> ?_⟩
 rw[pk]
 simp only[List.length_append] at hk
 split
 ·rename_i bW
  have e:(xs++ys).getD k Go.undef=xs.getD k Go.undef:=by
   simp only[Array.getD_eq_getD_getElem?]
   rw[Array.getElem?_append_left (by omega)]
  rw[e];exact h2 k bW
 ·rename_i hge
  have e:(xs++ys).getD k Go.undef=ys.getD (k-as.length) Go.undef:=by
   simp only[Array.getD_eq_getD_getElem?]
   rw[Array.getElem?_append_right (by omega),h1]
  rw[e];exact h4 _ (by omega)
theorem Qe{a:Act}(ht:∀i,ar C n (look tm i) (a.tmps.getD i Go.undef)){args:Array Operand}(hk:ef true tm args.toList=true):
  (args.map a.eval).size=(gG tm args.toList).length∧∀k,k<(gG tm args.toList).length→ar C n ((gG tm args.toList).getD k .undef) ((args.map a.eval).getD k Go.undef):=by
 obtain⟨h1,h2⟩:=FR (a:=a) ht (cs:=[]) (abY:= #[]) hk rfl (fun k hk=>by cases hk)
 simpa using And.intro h1 h2
theorem uN{ht:∀i,ar C n (look tm i) (a.tmps.getD i Go.undef)}{c:Call}{f:Operand}{fi:Nat}{as:List AV}(hc:c.callee=.value f)(hk:gu true tm (.call c)=true)(hf:dH tm f (gG tm c.args.toList)=some (fi,as)):
  ∃first abY,a.eval f=.func (.func fi) first abY∧(first++c.args.map a.eval++abY).size=as.length∧
   ∀k,k<as.length→ar C n (as.getD k .undef) ((first++c.args.map a.eval++abY).getD k Go.undef):=by
 have bT:ef true tm (f::c.args.toList)=true:=by simpa [gu,hc] using hk
 have jG:uk true (aX tm f)=true:=by
  simp only[ef,List.all_cons,Bool.and_eq_true] at bT;exact bT.1
 have jA:ef true tm c.args.toList=true:=by
  simp only[ef,List.all_cons,Bool.and_eq_true] at bT;exact bT.2
 have hr:=j9 (a:=a) ht jG
 obtain⟨e1,e2⟩:=Qe (a:=a) ht jA
 generalize a.eval f=v at hr ⊢
 unfold dH at hf
 split at hf
 ·rename_i f' ps e
  cases hf
  rw[e] at hr
  cases cn hr with
  |fb _ _ first h1 h2=>
   obtain⟨h4,h5⟩:=CS (C:=C) (n:=n) (as:=ps.map PV.up) (by simpa using h1) (fun k hk=>by
    have bT:k<ps.length:=by simpa using hk
    rw[xI bT]
    exact GP (h2 k bT)) e1 e2
   exact⟨first, #[],rfl,by simpa using h4,fun k hk=>by simpa using h5 k hk⟩
 ·rename_i f' ps e
  cases hf
  obtain⟨abY,h1,h2,h3⟩:=nH (x:=f) (fi:=fi) (cs:=ps.map PV.up) (by unfold mQ;rw[e]) hr
  obtain⟨h4,h5⟩:=CS (C:=C) (n:=n) e1 e2 h2 h3
  exact⟨#[],abY,h1,by simpa using h4,fun k hk=>by simpa using h5 k hk⟩
 ·rename_i f' ps e
  cases hf
  obtain⟨abY,h1,h2,h3⟩:=nH (x:=f) (fi:=fi) (cs:=ps) (by unfold mQ;rw[e]) hr
  obtain⟨h4,h5⟩:=CS (C:=C) (n:=n) e1 e2 h2 h3
  exact⟨#[],abY,h1,by simpa using h4,fun k hk=>by simpa using h5 k hk⟩
 ·cases hf
theorem yk{os:List Obj}:Bh (C.cut h.length) (h++os) h.length os:=fun k ob hk=>by
 have bW:=(List.getElem?_eq_some_iff.1 hk).1
 refine⟨by simp;omega,iD (by omega), ?_⟩
 simp[Hp.at,List.getElem?_append_right,hk]
structure pR(L:ct)(P:Program)(id:Nat)(as:List AV)(h:Hp)(r:Bool×Hp):Prop where
 len:h.length≤r.2.length
 rounds:∀(w:World) (C:Cx) (vs:Array Value) (l b:Nat),C.L=L→Mem ⟨w,j8 C h,C.M⟩ C h w→id<h.length→C.μ id=.loop l b→vs.size=as.length→(∀k,k<as.length→ar C h.length (as.getD k .undef) (vs.getD k Go.undef))→
  ∃fn tmps assign body,(Instr.yield l vs).run P w=.ok (.round l fn tmps assign body) w∧RoundIn Fence.wide 0 P l fn tmps assign body w fun
   | .returned u,w'=>u=.bool r.1∧∃C',Ext h.length C C'∧C'.K=C.K∧Mem ⟨w,j8 C h,C.M⟩ C' r.2 w'
   |_,_=>False
theorem Dl{x:Operand}{v:Value}{id:Nat}(hc:yieldOf tm x=some id)(hr:ar C n (uv (aX tm x)) v):∃l b,v=.func (.yield l) #[] #[]∧id<n∧C.μ id=.loop l b:=by
 unfold yieldOf at hc
 split at hc
 ·rename_i i e
  cases hc
  rw[e] at hr
  cases hr with
  |yl _ l b h1 h2=>exact⟨l,b,rfl,h1,h2⟩
 ·cases hc
theorem run_yield{c:Call}{f:Operand}{l:Nat}(ho:o.op=.call c)(hc:c.callee=.value f)(hv:a.eval f=.func (.yield l) #[] #[]):(execOp a.eval o).run P w=(Instr.yield l (c.args.map a.eval)).run P w:=by
 simp[execOp,ho,resolve,hc,hv,Deferred.ofValue,invoke]
theorem Qh{L:ct}{rn:Option Nat}{x:X}{s s':St}(hT:x.T.Ok P)(A9:∀g cs,x.T.glob g=some cs→L.glob g=some cs)(gR:∀f as h r,x.call f as h=some r→dq L x.T.fresh P f as h r)(sL:∀id as h r,x.yield id as h=some r→pR L P id as h r)(hL:C.L=L)(he:jP x s.hp false g o s=some s')(hm:Mem F C s.hp w)
  (ht:∀i,ar C s.hp.length (look s.tm i) (a.tmps.getD i Go.undef))(hw:Region.wanted o (yielded ops a.tmps)=g.getD true):
  (∀d,o.dst=some d→d<x.nt)∧s.hp.length≤s'.hp.length∧∃v,s'.tm=bJ s.tm o.dst v∧pv rn P ops o a w fun u w'=>∃C',Ext s.hp.length C C'∧Mem F C' s'.hp w'∧ar C' s'.hp.length v u:=by
 unfold jP at he
 obtain⟨_,h0,he⟩:=au he
 have hd:∀d,o.dst=some d→d<x.nt:=fun d e=>by
  have:=df h0
  rw[e] at this
  simpa [cF] using this
 refine⟨hd, ?_⟩
 have jM:∀id,s.hp.at id≠ .dead→s.hp.at id=s.hp.at id:=fun _ _=>rfl
 generalize ly x.T x.f o.dst=own at he
 cases hA:pY x.T own s.hp s.tm o.op with
 |some r=>
  rw[hA] at he
  simp only[bd] at he
  obtain⟨_,h1,he⟩:=au he
  have h1:=df h1
  cases he
  refine⟨by simp,_,rfl, ?_⟩
  obtain⟨nX,kV⟩:=hm.room (r.obj s.hp.length::r.aux)
  refine(R1 hT nX (rd:=s.hp) (fun id aH=> ?_) (fun i=>(ht i).mono kV (by simp)) hw hA h1 yk).mono fun u w' hu=> ?_
  ·have:id<s.hp.length:=by
    rcases Nat.lt_or_ge id s.hp.length with h|h
    ·exact h
    ·exact absurd (by simp[Hp.at,List.getElem?_eq_none h]) aH
   simp[Hp.at,List.getElem?_append_left this]
  ·obtain⟨C',h2,_,h3,h4⟩:=hu
   exact⟨C',kV.trans (h2.le (by simp)),h3,h4⟩
 |none=>
 rw[hA] at he
 simp only[aW] at he
 cases hV:sr x.T s.hp s.tm o.op with
 |some r=>
  rw[hV] at he
  simp only[bd] at he
  obtain⟨_,h1,he⟩:=au he
  have h1:=df h1
  cases he
  refine⟨Nat.le_refl _,_,rfl, ?_⟩
  refine(QR hT (fun g cs e=>by rw[hL];exact A9 g cs e) hm jM ht hw hV h1).mono fun u w' hu=> ?_
  obtain⟨C',h2,_,h3,h4⟩:=hu
  exact⟨C',h2,h3,h4⟩
 |none=>
 rw[hV] at he
 simp only[aW] at he
 obtain⟨_,h1,he⟩:=au he
 have h1:=df h1
 cases hC:eJ o.op with
 |some c=>
  obtain⟨f,l⟩:=c
  rw[hC] at he
  simp only[bd] at he
  obtain⟨c,ho,vQ,rfl⟩:=nI hC
  cases hY:yieldOf s.tm f with
  |some id=>
   rw[hY] at he
   simp only[bd,sU] at he
   split at he
   ·rename_i hg
    rw[if_neg (by simp)] at he
    obtain⟨r,hyl,he⟩:=au he
    cases he
    have aV:=sL _ _ _ _ hyl
    refine⟨aV.len,_,rfl, ?_⟩
    rw[hg] at hw h1
    have bT:ef true s.tm (f::c.args.toList)=true:=by
     rw[ho] at h1
     simpa [gu,vQ] using h1
    have jG:uk true (aX s.tm f)=true:=by
     simp only[ef,List.all_cons,Bool.and_eq_true] at bT;exact bT.1
    have jA:ef true s.tm c.args.toList=true:=by
     simp only[ef,List.all_cons,Bool.and_eq_true] at bT;exact bT.2
    obtain⟨l,b,hv,aH,hμ⟩:=Dl hY (j9 (a:=a) ht jG)
    obtain⟨h4,h5⟩:=FR (a:=a) (cs:=[]) (abY:= #[]) ht jA rfl (by simp)
    simp only[List.append_nil,Array.append_empty] at h4 h5
    obtain⟨fn,tmps,GB,body,h6,h7⟩:=aV.rounds w C _ l b hL hm.before aH hμ h4 h5
    refine Ik (i7 ho) hw (by rw[run_yield ho vQ hv,h6]) (h7.mono fun e w' he=> ?_)
    cases e with
    |returned u=>
     obtain⟨rfl,C',h8,_,h9⟩:=he
     exact⟨C',h8,hm.after h9,fS hg (i9 _)⟩
    |panicked _=>exact he.elim
    |outgrown=>exact he.elim
   ·rename_i hg
    cases he
    have JF:g.getD true=false:=by simpa using hg
    rw[JF] at hw
    exact⟨Nat.le_refl _,_,rfl,fM hw ⟨C,Ext.refl _ _,hm,.gdF _⟩⟩
  |none=>
  rw[hY] at he
  simp only[aW] at he
  cases rm:dH s.tm f (gG s.tm c.args.toList) with
  |none=>
   rw[rm] at he
   simp only[aW] at he
   split at he
   ·cases he
   ·rename_i hg
    cases he
    have JF:g.getD true=false:=by simpa using hg
    rw[JF] at hw
    exact⟨Nat.le_refl _,_,rfl,fM hw ⟨C,Ext.refl _ _,hm,.gdF _⟩⟩
  |some q=>
  obtain⟨fi,as⟩:=q
  rw[rm] at he
  simp only[bd] at he
  have key:g.getD true=true→∃first abY,a.eval f=.func (.func fi) first abY∧(first++c.args.map a.eval++abY).size=as.length∧
   ∀k,k<as.length→ar C s.hp.length (as.getD k .undef) ((first++c.args.map a.eval++abY).getD k Go.undef):=fun hg=>by
   rw[hg,ho] at h1
   exact uN (ht:=ht) vQ (by simpa using h1) rm
  change (if (cZ ((dS (x.T.muts fi) s.hp as).flatMap AV.cells)).isSome=true then _ else _)=some s' at he
  have no:g.getD true=false→s'=⟨bJ s.tm o.dst (.gd false .undef),s.hp⟩→s.hp.length≤s'.hp.length∧∃v,s'.tm=bJ s.tm o.dst v∧pv rn P ops o a w fun u w'=>∃C',Ext s.hp.length C C'∧Mem F C' s'.hp w'∧ar C' s'.hp.length v u:=by
   intro hg e
   subst e
   rw[hg] at hw
   exact⟨Nat.le_refl _,_,rfl,fM hw ⟨C,Ext.refl _ _,hm,.gdF _⟩⟩
  split at he
  ·rename_i hp
   cases jb:x.call fi (dS (x.T.muts fi) s.hp as) [] with
   |none=>
    change kO (x.call fi (dS (x.T.muts fi) s.hp as) []) _ _=some s' at he
    rw[jb] at he
    simp only[aW] at he
    split at he
    ·cases he
    ·rename_i hg
     cases he
     exact no (by simpa using hg) rfl
   |some r=>
    change kO (x.call fi (dS (x.T.muts fi) s.hp as) []) _ _=some s' at he
    rw[jb] at he
    simp only[bd] at he
    have aV:=gR _ _ _ _ jb
    split at he
    ·rename_i AF
     have acH:r.2=[]:=List.eq_nil_of_length_eq_zero AF
     by_cases My:g.getD true=true
     case neg=>
      have A_:g.getD true=false:=by simpa using My
      split at he
      ·cases he
       rw[A_] at hw
       exact⟨Nat.le_refl _,_,rfl,fM hw ⟨C,Ext.refl _ _,hm,pK A_⟩⟩
      ·cases he
       exact no A_ rfl
     have both:s'=⟨bJ s.tm o.dst (m8 g r.1),if scalar r.1=true∨x.T.fresh fi=true then s.hp else share s.hp (bO (x.T.muts fi) as)⟩:=by
      split at he
      ·rename_i Lu;cases he;rw[if_pos Lu]
      ·rename_i Lu
       rw[if_neg (by simp)] at he
       cases he;rw[if_neg Lu]
     subst both
     have hlen:(if scalar r.1=true∨x.T.fresh fi=true then s.hp else share s.hp (bO (x.T.muts fi) as)).length=s.hp.length:=by split<;>simp[aY]
     refine⟨by rw[hlen];exact Nat.le_refl _,_,rfl, ?_⟩
     cases hg:g.getD true with
     |false=>
      rw[hg] at hw
      refine fM hw ⟨C,Ext.refl _ _, ?_,pK hg⟩
      split
      ·exact hm
      ·exact hm.mark _
     |true=>
      obtain⟨first,abY,hv,hs,hr⟩:=key hg
      rw[hg] at hw
      refine jg (i7 ho) hw (mw ho vQ hv aV.fn) ((uM hL hm jM hs hr hp aV).mono fun e w' he=> ?_)
      cases e with
      |returned u=>
       obtain⟨C',h2,_,h3,h4⟩:=Aj hm acH he
       exact⟨C',h2,h3,by rw[hlen];exact fS hg h4⟩
      |panicked _=>exact he.elim
      |outgrown=>exact he.elim
    ·split at he
     ·rename_i hg
      split at he
      ·rename_i Gz
       cases he
       obtain⟨first,abY,hv,hs,hr⟩:=key hg
       rw[hg] at hw
       refine⟨by simp only[List.length_append,aY];omega,_,rfl, ?_⟩
       refine jg (i7 ho) hw (mw ho vQ hv aV.fn) ((uM hL hm jM hs hr hp aV).mono fun e w' he=> ?_)
       cases e with
       |returned u=>
        obtain⟨C',h2,h3,h4⟩:=KR hm Gz.2 he
        refine⟨C',h2,h3, ?_⟩
        simp only[List.length_append,aY]
        exact fS hg h4
       |panicked _=>exact he.elim
       |outgrown=>exact he.elim
      ·rw[if_pos trivial] at he
       obtain⟨r2,ayX,he⟩:=au he
       cases he
       obtain⟨WQ,hlen,Xw⟩:=FE gR ayX
       obtain⟨first,abY,hv,hs,hr⟩:=key hg
       rw[hg] at hw
       refine⟨hlen,_,rfl, ?_⟩
       refine jg (i7 ho) hw (mw ho vQ hv WQ) ((Xw hL hm hs hr).mono fun e w' he=> ?_)
       cases e with
       |returned u=>
        obtain⟨C',h2,h3,h4⟩:=he
        exact⟨C',h2,h3,fS hg h4⟩
       |panicked _=>exact he.elim
       |outgrown=>exact he.elim
     ·rename_i hg
      cases he
      exact no (by simpa using hg) rfl
  ·split at he
   ·rename_i hg
    rw[if_neg (by simp)] at he
    obtain⟨r,jb,he⟩:=au he
    cases he
    obtain⟨WQ,hlen,Xw⟩:=FE gR jb
    obtain⟨first,abY,hv,hs,hr⟩:=key hg
    rw[hg] at hw
    refine⟨hlen,_,rfl, ?_⟩
    refine jg (i7 ho) hw (mw ho vQ hv WQ) ((Xw hL hm hs hr).mono fun e w' he=> ?_)
    cases e with
    |returned u=>
     obtain⟨C',h2,h3,h4⟩:=he
     exact⟨C',h2,h3,fS hg h4⟩
    |panicked _=>exact he.elim
    |outgrown=>exact he.elim
   ·rename_i hg
    cases he
    exact no (by simpa using hg) rfl
 |none=>
  rw[hC] at he
  simp only[aW] at he
  split at he
  ·rename_i hg
   rw[if_neg (by simp)] at he
   obtain⟨r,hW,he⟩:=au he
   cases he
   rw[hg] at hw h1
   obtain⟨v,w',C',h2,h3,h4,h5,h6,_⟩:=An hT hm ht hW (by simpa using h1)
   refine⟨by rw[h5];exact Nat.le_refl _,_,rfl, ?_⟩
   rcases h2 with h2|⟨h2,rfl⟩
   ·exact kW (pI hW) hw h2 ⟨C',h3,h4,by rw[h5];exact fS hg h6⟩
   ·exact AU (pI hW) hw h2 ⟨C',h3,h4,by rw[h5];exact fS hg h6⟩
  ·rename_i hg
   cases he
   rw[Bool.not_eq_true] at hg
   rw[hg] at hw
   exact⟨Nat.le_refl _,_,rfl,fM hw ⟨C,Ext.refl _ _,hm,.gdF _⟩⟩
end
end Go.En
namespace Go.En
open Go.RowKit
section
variable {P:Program} {T:cX} {F:e_} {w w':World} {C C':Cx} {h rd:Hp} {n:Nat} {tm lq:Tm}
variable {ops:Array Oper} {o:Oper} {a:Act} {g:Option Bool}
theorem oB(f:Nat→AV)(l:List Nat)(i:Nat):look (l.map fun k=>(k,f k)) i=if i∈l then f i else .undef:=by
 induction l with
 |nil=>simp[look]
 |cons k l ih=>
  simp only[List.map_cons,look,ih,List.mem_cons]
  by_cases h1:k=i
  ·subst h1;simp
  ·simp only[h1,if_false,Ne.symm h1,false_or]
def only(tm:Tm)(l:List Nat):Tm:=l.map fun k=>(k,look tm k)
theorem xn{l:List Operand}{x:Operand}(hx:x∈l):aX tm x=aX (only tm (slotsOf l)) x:=by
 cases x with
 |tmp t=>
  have:t∈slotsOf l:=by
   simp only[slotsOf,List.mem_filterMap]
   exact⟨.tmp t,hx,rfl⟩
  simp[aX,only,oB,this]
 |_=>rfl
theorem BA(s:St)(t:Tm):(⟨t,s.hp⟩:St)=⟨t,s.hp++[]⟩:=by simp
def Gl(L:ct)(rn:Option Nat)(P:Program)(o:Oper)(rd:Hp)(s:St)(g:Option Bool)(v:AV)(os:List Obj):Prop:=
 ∀(F:e_) (C:Cx) (H:Hp) (w:World) (a:Act) (ops:Array Oper),C.L=L→Mem F C H w→(∀id,rd.at id≠ .dead→H.at id=rd.at id)→
  (∀i∈slotsOf o.op.operands.toList,ar C H.length (look s.tm i) (a.tmps.getD i Go.undef))→Region.wanted o (yielded ops a.tmps)=g.getD true→
  Bh C H s.hp.length os→pv rn P ops o a w fun u w'=>∃C',Ext H.length C C'∧(∀j,j<H.length→¬(s.hp.length≤j∧j<s.hp.length+os.length)→C'.μ j=C.μ j)∧Mem F C' H w'∧ar C' H.length v u
theorem AR{L:ct}{rn:Option Nat}{x:X}{s s':St}(hT:x.T.Ok P)(A9:∀g cs,x.T.glob g=some cs→L.glob g=some cs)(gR:∀f as h r,x.call f as h=some r→dq L x.T.fresh P f as h r)(he:jP x rd true g o s=some s'):
  (∀d,o.dst=some d→d<x.nt)∧∃v,∃os:List Obj,s'=⟨bJ s.tm o.dst v,s.hp++os⟩∧Gl L rn P o rd s g v os:=by
 have Gy:∀y∈o.op.operands.toList,aX s.tm y=aX (only s.tm (slotsOf o.op.operands.toList)) y:=fun y hy=>xn hy
 have gq:∀{C:Cx} {n:Nat} {a:Act},(∀i∈slotsOf o.op.operands.toList,ar C n (look s.tm i) (a.tmps.getD i Go.undef))→∀i,ar C n (look (only s.tm (slotsOf o.op.operands.toList)) i) (a.tmps.getD i Go.undef):=by
  intro C n a hr i
  unfold only
  rw[oB]
  split
  ·exact hr i (by assumption)
  ·exact .undef _
 unfold jP at he
 obtain⟨_,h0,he⟩:=au he
 have hd:∀d,o.dst=some d→d<x.nt:=fun d e=>by
  have:=df h0
  rw[e] at this
  simpa [cF] using this
 refine⟨hd, ?_⟩
 generalize ly x.T x.f o.dst=own at he
 cases hA:pY x.T own rd s.tm o.op with
 |some r=>
  rw[hA] at he
  simp only[bd] at he
  obtain⟨_,h1,he⟩:=au he
  have h1:=df h1
  cases he
  refine⟨_,r.obj s.hp.length::r.aux,rfl,fun F C H w a ops hL hm jM ht hw hf=> ?_⟩
  rw[K6 Gy] at hA
  rw[mA Gy] at h1
  refine(R1 hT hm jM (gq ht) hw hA h1 hf).mono fun u w' hu=> ?_
  obtain⟨C',h2,h3,h4,h5⟩:=hu
  exact⟨C',h2,fun j _ hj=>h3 j (by simpa using hj),h4,h5⟩
 |none=>
 rw[hA] at he
 simp only[aW] at he
 cases hV:sr x.T rd s.tm o.op with
 |some r=>
  rw[hV] at he
  simp only[bd] at he
  obtain⟨_,h1,he⟩:=au he
  have h1:=df h1
  cases he
  refine⟨_,[],BA s _,fun F C H w a ops hL hm jM ht hw _=> ?_⟩
  rw[K4 Gy] at hV
  rw[mA Gy] at h1
  refine(QR hT (fun g cs e=>by rw[hL];exact A9 g cs e) hm jM (gq ht) hw hV h1).mono fun u w' hu=> ?_
  obtain⟨C',h2,h3,h4,h5⟩:=hu
  exact⟨C',h2,fun _ _ _=>by rw[h3],h4,h5⟩
 |none=>
 rw[hV] at he
 simp only[aW] at he
 obtain⟨_,h1,he⟩:=au he
 have h1:=df h1
 have no:g.getD true=false→s'=⟨bJ s.tm o.dst (.gd false .undef),s.hp⟩→∃v,∃os:List Obj,s'=⟨bJ s.tm o.dst v,s.hp++os⟩∧Gl L rn P o rd s g v os:=by
  intro hg e
  subst e
  refine⟨_,[],BA s _,fun F C H w a ops hL hm jM ht hw _=> ?_⟩
  rw[hg] at hw
  exact fM hw ⟨C,Ext.refl _ _,fun _ _ _=>rfl,hm,.gdF _⟩
 cases hC:eJ o.op with
 |some c=>
  obtain⟨f,l⟩:=c
  rw[hC] at he
  simp only[bd] at he
  obtain⟨c,ho,vQ,rfl⟩:=nI hC
  cases hY:yieldOf s.tm f with
  |some id=>
   rw[hY] at he
   simp only[bd,sU] at he
   split at he
   ·cases he
   ·rename_i hg
    cases he
    exact no (by simpa using hg) rfl
  |none=>
  rw[hY] at he
  simp only[aW] at he
  cases rm:dH s.tm f (gG s.tm c.args.toList) with
  |none=>
   rw[rm] at he
   simp only[aW] at he
   split at he
   ·cases he
   ·rename_i hg
    cases he
    exact no (by simpa using hg) rfl
  |some q=>
  obtain⟨fi,as⟩:=q
  rw[rm] at he
  simp only[bd] at he
  have key:∀{C:Cx} {n:Nat} {a:Act},(∀i∈slotsOf o.op.operands.toList,ar C n (look s.tm i) (a.tmps.getD i Go.undef))→g.getD true=true→∃first abY,a.eval f=.func (.func fi) first abY∧(first++c.args.map a.eval++abY).size=as.length∧
   ∀k,k<as.length→ar C n (as.getD k .undef) ((first++c.args.map a.eval++abY).getD k Go.undef):=fun hr hg=>by
   have H2:=Gy
   rw[hg,mA Gy] at h1
   rw[ho] at H2 h1
   have e1:gG s.tm c.args.toList=gG (only s.tm (slotsOf o.op.operands.toList)) c.args.toList:=by
    rw[ho]
    exact je fun y hy=>H2 y (by simp only[Op.operands,Call.operands,Array.toList_append,List.mem_append];exact .inr hy)
   have e2:∀as,dH s.tm f as=dH (only s.tm (slotsOf o.op.operands.toList)) f as:=fun as=>by
    rw[ho]
    exact qu (H2 f (by simp[Op.operands,Call.operands,vQ]))
   rw[e2,e1] at rm
   rw[ho] at rm hr
   exact uN (ht:=by
    have:=gq (by rw[ho];exact hr)
    rw[ho] at this
    exact this) vQ (by simpa using h1) rm
  change (if (cZ ((dS (x.T.muts fi) rd as).flatMap AV.cells)).isSome=true then _ else _)=some s' at he
  split at he
  ·rename_i hp
   cases jb:x.call fi (dS (x.T.muts fi) rd as) [] with
   |none=>
    change kO (x.call fi (dS (x.T.muts fi) rd as) []) _ _=some s' at he
    rw[jb] at he
    simp only[aW] at he
    split at he
    ·cases he
    ·rename_i hg
     cases he
     exact no (by simpa using hg) rfl
   |some r=>
    change kO (x.call fi (dS (x.T.muts fi) rd as) []) _ _=some s' at he
    rw[jb] at he
    simp only[bd] at he
    have aV:=gR _ _ _ _ jb
    split at he
    ·rename_i AF
     have acH:r.2=[]:=List.eq_nil_of_length_eq_zero AF
     by_cases My:g.getD true=true
     case neg=>
      have A_:g.getD true=false:=by simpa using My
      split at he
      ·cases he
       refine⟨_,[],BA s _,fun F C H w a ops hL hm jM ht hw _=> ?_⟩
       rw[A_] at hw
       exact fM hw ⟨C,Ext.refl _ _,fun _ _ _=>rfl,hm,pK A_⟩
      ·cases he
       exact no A_ rfl
     have both:s'=⟨bJ s.tm o.dst (m8 g r.1),s.hp⟩∧((scalar r.1=true∨x.T.fresh fi=true)∨bO (x.T.muts fi) as=[]):=by
      split at he
      ·rename_i Lu;cases he;exact⟨rfl,.inl Lu⟩
      ·split at he
       ·cases he
       ·rename_i hn
        cases he
        have e:bO (x.T.muts fi) as=[]:=by
         by_cases e:bO (x.T.muts fi) as=[]
         ·exact e
         ·exact absurd ⟨trivial,e⟩ hn
        refine⟨?_,.inr e⟩
        show(⟨_,share s.hp (bO (x.T.muts fi) as)⟩:St)=_
        rw[e];rfl
     obtain⟨rfl,ER⟩:=both
     refine⟨_,[],BA s _,fun F C H w a ops hL hm jM ht hw _=> ?_⟩
     cases hg:g.getD true with
     |false=>
      rw[hg] at hw
      exact fM hw ⟨C,Ext.refl _ _,fun _ _ _=>rfl,hm,pK hg⟩
     |true=>
      obtain⟨first,abY,hv,hs,hr⟩:=key ht hg
      rw[hg] at hw
      refine jg (i7 ho) hw (mw ho vQ hv aV.fn) ((uM hL hm jM hs hr hp aV).mono fun e w' he=> ?_)
      cases e with
      |returned u=>
       obtain⟨C',h2,h3,h4,h5⟩:=Aj hm acH he
       have e:(if scalar r.1=true∨x.T.fresh fi=true then H else share H (bO (x.T.muts fi) as))=H:=by
        split
        ·rfl
        ·rename_i Lu
         rcases ER with ER|ER
         ·exact absurd ER Lu
         ·rw[ER];rfl
       rw[e] at h4
       exact⟨C',h2,fun j hj _=>h3 j hj,h4,fS hg h5⟩
      |panicked _=>exact he.elim
      |outgrown=>exact he.elim
    ·split at he
     ·rename_i My
      rw[if_neg (by simp),if_neg (by simp)] at he
      split at he
      ·rename_i hc
       obtain⟨Rz,ER⟩:=hc
       cases he
       refine⟨m8 g (np s.hp.length r.1),r.2,rfl,fun F C H w a ops hL hm jM ht hw hf=> ?_⟩
       obtain⟨first,abY,hv,hs,hr⟩:=key ht My
       rw[My] at hw
       refine jg (i7 ho) hw (mw ho vQ hv aV.fn) ((uM hL hm jM hs hr hp aV).mono fun e w' he=> ?_)
       cases e with
       |returned u=>
        obtain⟨C',h2,h3,h4,h5⟩:=Sw (as:=as) hm Rz ER hf he
        exact⟨C',h2,fun j _ hn=>h3 j hn,h4,fS My h5⟩
       |panicked _=>exact he.elim
       |outgrown=>exact he.elim
      ·cases he
     ·rename_i hg
      cases he
      exact no (by simpa using hg) rfl
  ·split at he
   ·cases he
   ·rename_i hg
    cases he
    exact no (by simpa using hg) rfl
 |none=>
  rw[hC] at he
  simp only[aW] at he
  split at he
  ·cases he
  ·rename_i hg
   cases he
   exact no (by simpa using hg) rfl
end
end Go.En
namespace Go.En
open Go.RowKit
structure At where
 F:e_
 C0:Cx
 n0:Nat
 nt:Nat
 rn:Option Nat
def Marks(w0:World)(C:Cx):List Deferred→Prop
 |[]=>True
 |d::r=>(∃D,d={target:=.collected D,args:= #[]}∧C.K D=some (.deferred (some []))∧w0.heap.size≤D∧∀d'∈r,d'≠{target:=.collected D,args:= #[]})∧Marks w0 C r
theorem Marks.mono{w0:World}{C C':Cx}(h:∀B o,C.K B=some o→C'.K B=some o):∀{ds:List Deferred},Marks w0 C ds→Marks w0 C' ds
 |[],_=>trivial
 |d::r,⟨⟨D,h1,h2,h3⟩,h4⟩=>⟨⟨D,h1,h _ _ h2,h3⟩,Marks.mono h h4⟩
structure Rel(A:At)(C:Cx)(s:St)(a:Act)(w:World):Prop where
 size:a.tmps.size=A.nt
 defers:Marks A.F.w0 C a.defers
 tm:∀i,ar C s.hp.length (look s.tm i) (a.tmps.getD i Go.undef)
 mem:Mem A.F C s.hp w
 ext:Ext A.n0 A.C0 C
 len:A.n0≤s.hp.length
def dx(A:At)(s:St)(a:Act)(w:World):Prop:=∃C,Rel A C s a w
structure Known(L:ct)(P:Program)(x:X):Prop where
 T:x.T.Ok P
 glob:∀g cs,x.T.glob g=some cs→L.glob g=some cs
 calls:∀f as h r,x.call f as h=some r→dq L x.T.fresh P f as h r
 yields:∀id as h r,x.yield id as h=some r→pR L P id as h r
section
variable {P:Program} {T:cX} {F:e_} {w w':World} {C C':Cx} {h rd:Hp} {n:Nat} {tm lq:Tm} {A:At} {L:ct}
variable {ops:Array Oper} {o:Oper} {a:Act} {g:Option Bool}
theorem Jh{x:X}{s s':St}(hK:Known L P x)(hL:A.C0.L=L)(Jz:x.nt=A.nt)(hg:guardOf ops.toList s.tm o.guard=some g)(he:jP x s.hp false g o s=some s')
  (hr:Rel A C s a w):pv A.rn P ops o a w fun u w'=>dx A s' (a.put o.dst u) w':=by
 obtain⟨h1,h2,v,h3,h4⟩:=Qh (rn:=A.rn) (ops:=ops) hK.T hK.glob hK.calls hK.yields (hr.ext.L.trans hL) he hr.mem hr.tm (sQ hg rfl (fun i _=>hr.tm i))
 refine h4.mono fun u w' hu=> ?_
 obtain⟨C',h5,h6,h7⟩:=hu
 refine⟨C',by rw[DV];exact hr.size,by rw[put_defers];exact hr.defers.mono h5.K,fun i=> ?_,h6,hr.ext.trans (h5.le hr.len),Nat.le_trans hr.len h2⟩
 rw[h3,ub,DW a o.dst u i (fun j e=>by rw[hr.size,←Jz];exact h1 j e)]
 split
 ·exact h7
 ·exact(hr.tm i).mono h5 h2
theorem tD{rn:Option Nat}{Q:Exit→Act→World→Prop}{K:Act→World→Prop}{i:Nat}{R:Value→World→Prop}(ho:ops[i]? =some o)(hd:pv rn P ops o a w R)(hk:∀u w',R u w'→K (a.put o.dst u) w'):wpOpIn (FW rn) 0 P ops Q i K a w:=by
 have:=hd Q K hk
 unfold wpOpIn
 simp only[ho]
 exact this
theorem zt{F:Fence}{n:Nat}{Q:Exit→Act→World→Prop}(i:Nat)(rest:List Nat)(a:Act)(w:World):wpOpsIn F n P ops Q (i::rest) a w=wpOpIn F n P ops Q i (wpOpsIn F n P ops Q rest) a w:=by
 cases h:ops[i]? <;>simp[wpOpsIn,wpOpIn,h]
theorem vy{x:X}(hK:Known L P x)(hL:A.C0.L=L)(Jz:x.nt=A.nt){Q:Exit→Act→World→Prop}{s':St}:
  ∀(r:List Oper) (k:Nat) (s:St) (a:Act) (w:World),ops.toList.drop k=r→vz x ops.toList r s=some s'→dx A s a w→(∀a' w',dx A s' a' w'→Q .normal a' w')→wpOpsIn (FW A.rn) 0 P ops Q (List.range' k r.length) a w
 |[],k,s,a,w,_,he,hs,hq=>by
  simp[vz] at he
  subst he
  simpa [wpOpsIn] using hq a w hs
 |o::r,k,s,a,w,hl,he,⟨C,hr⟩,hq=>by
  simp only[vz] at he
  obtain⟨g,hg,he⟩:=au he
  obtain⟨s1,h1,he⟩:=au he
  have hk:k<ops.toList.length:=by
   rcases Nat.lt_or_ge k ops.toList.length with h|h
   ·exact h
   ·rw[List.drop_eq_nil_of_le h] at hl;cases hl
  have ho:ops[k]? =some o:=by
   have:=congrArg List.head? hl
   rw[List.head?_drop] at this
   simpa using this
  have Lz:ops.toList.drop (k+1)=r:=by
   have:=congrArg List.tail hl
   rw[List.tail_drop] at this
   simpa using this
  rw[List.length_cons,List.range'_succ,zt]
  exact tD ho (Jh hK hL Jz hg h1 hr) (fun u w' hu=>vy hK hL Jz r (k+1) s1 _ w' Lz he hu hq)
theorem mh:∀(r:List Oper) (acc:List (List Nat)) (l:List Oper),l.length=acc.length→
  (∀(j:Nat) (o:Oper),l[j]? =some o→∀i∈(acc[j]?).getD [],∃e∈o.after.toList,du e=true∧(i=e.on∨i∈(acc[e.on]?).getD []))→
  (lf acc r).length=l.length+r.length∧
  ∀(j:Nat) (o:Oper),(l++r)[j]? =some o→∀i∈((lf acc r)[j]?).getD [],∃e∈o.after.toList,du e=true∧(i=e.on∨i∈((lf acc r)[e.on]?).getD [])
 |[],acc,l,hl,h=>by simpa [lf,hl] using h
 |o::r,acc,l,hl,h=>by
  have grow:∀(k i:Nat),i∈(acc[k]?).getD []→i∈((acc++[wD acc o])[k]?).getD []:=fun k i hi=>by
   cases e:acc[k]? with
   |none=>rw[e] at hi;simp at hi
   |some v=>
    have:=(List.getElem?_eq_some_iff.1 e).1
    rw[List.getElem?_append_left this,e]
    rw[e] at hi;exact hi
  have:=mh r (acc++[wD acc o]) (l++[o]) (by simp[hl]) (fun j o' hj i hi=>by
   rcases Nat.lt_or_ge j l.length with Gv|Gv
   ·rw[List.getElem?_append_left Gv] at hj
    rw[List.getElem?_append_left (by omega)] at hi
    obtain⟨e,h1,h2,h3⟩:=h j o' hj i hi
    exact⟨e,h1,h2,h3.imp id (grow _ _)⟩
   ·have QV:j=l.length:=by
     have:=(List.getElem?_eq_some_iff.1 hj).1
     simp at this;omega
    subst QV
    have ho:o'=o:=by simpa using hj.symm
    subst ho
    rw[hl,List.getElem?_append_right (Nat.le_refl _)] at hi
    simp only[Nat.sub_self,List.getElem?_cons_zero,Option.getD_some] at hi
    have hi:=Ee hi
    simp only[List.mem_flatMap,List.mem_filter,List.mem_cons] at hi
    obtain⟨e,⟨h1,h2⟩,h3⟩:=hi
    exact⟨e,h1,h2,h3.imp id (grow _ _)⟩)
  simpa [lf,List.append_assoc,Nat.add_assoc,Nat.add_comm 1] using this
theorem A4(l:List Oper){j:Nat}{o:Oper}(ho:l[j]? =some o){i:Nat}(hi:i∈((mU l)[j]?).getD []):
  ∃e∈o.after.toList,du e=true∧(i=e.on∨i∈((mU l)[e.on]?).getD []):=by
 have:=(mh l [] [] rfl (fun j o h=>by simp at h)).2 j o (by simpa using ho) i hi
 exact this
structure uS(l:List Oper)(sq:List Nat)(lt:List (Nat×List Nat×List Nat)):Prop where
 late:∀e∈lt,∀i∈e.2.2,i∈((mU l)[e.1]?).getD []
 lates:lt.Pairwise fun e e'=>e.1∈((mU l)[e'.1]?).getD []
 dsts:k9 (l.filterMap (·.dst))=true
 seq:∀j∈sq,Pt (mU l) l.length j=true
 before:∀(j:Nat) (o:Oper),l[j]? =some o→∀e∈o.after.toList,du e=true→e.on<j
 apart:∀(j i:Nat) (b a:Oper),i<j→l[j]? =some b→l[i]? =some a→i∈((mU l)[j]?).getD []∨jk l a b=true
theorem uS.lt{l:List Oper}{sq:List Nat}{lt:List (Nat×List Nat×List Nat)}(hd:uS l sq lt):∀(k i:Nat),i∈((mU l)[k]?).getD []→i<k:=by
 intro k
 induction k using Nat.strongRecOn with
 |_ k ih=>
  intro i hi
  have hlen:(mU l).length=l.length:=by
   have:=(mh l [] [] rfl (fun j o h=>by simp at h)).1
   simpa [mU] using this
  rcases Nat.lt_or_ge k l.length with hk|hk
  ·obtain⟨e,h1,h2,h3⟩:=A4 l (List.getElem?_eq_getElem hk) hi
   have h4:=hd.before k _ (List.getElem?_eq_getElem hk) e h1 h2
   rcases h3 with h3|h3
   ·omega
   ·have:=ih e.on h4 i h3;omega
  ·rw[List.getElem?_eq_none (by omega)] at hi
   simp at hi
theorem oE{an:List (List Nat)}:∀{lt:List (Nat×List Nat×List Nat)},B7 an lt=true→(∀e∈lt,∀i∈e.2.2,i∈((an)[e.1]?).getD [])∧lt.Pairwise fun e e'=>e.1∈((an)[e'.1]?).getD []
 |[],_=>⟨fun e he=>(by cases he),.nil⟩
 |(k,W,l)::r,h=>by
  simp only[B7,Bool.and_eq_true,List.all_eq_true] at h
  obtain⟨⟨h1,h2⟩,h3⟩:=h
  obtain⟨h4,h5⟩:=oE h3
  refine⟨fun e he=> ?_,.cons (fun e he=> ?_) h5⟩
  ·rcases List.mem_cons.1 he with rfl|he
   ·exact fun i hi=>by simpa using h1 i hi
   ·exact h4 e he
  ·simpa using h2 e he
theorem Fm{l:List Oper}{sq:List Nat}{lt:List (Nat×List Nat×List Nat)}(h:CF l sq lt=true):uS l sq lt:=by
 simp only[CF,Bool.and_eq_true,List.all_eq_true,List.mem_range] at h
 obtain⟨⟨h0,h1,h2⟩,h3⟩:=h
 refine⟨(oE h0).1,(oE h0).2,h1,h2,fun j o ho e he hb=> ?_,fun j i b a Gx hj hi=> ?_⟩
 ·have hj:=(List.getElem?_eq_some_iff.1 ho).1
  have h4:=h3 j hj
  rw[ho] at h4
  simp only[Bool.and_eq_true,List.all_eq_true,List.mem_filter] at h4
  simpa using h4.1 e ⟨he,hb⟩
 ·have Gv:=(List.getElem?_eq_some_iff.1 hj).1
  have h4:=h3 j Gv
  rw[hj] at h4
  simp only[Bool.and_eq_true,List.all_eq_true,List.mem_range] at h4
  have h5:=h4.2 i Gx
  rw[hi] at h5
  simpa using h5
theorem y_{l:List Oper}{sq:List Nat}{lt:List (Nat×List Nat×List Nat)}(hd:uS l sq lt){L:Nat→Prop}(hL:∀(j:Nat) (o:Oper),l[j]? =some o→L j→∀e∈o.after.toList,du e=true→L e.on):
  ∀(j:Nat) (o:Oper),l[j]? =some o→(∀e∈o.after.toList,du e=true→L e.on)→∀i∈((mU l)[j]?).getD [],L i:=by
 intro j
 induction j using Nat.strongRecOn with
 |ind j ih=>
  intro o ho hr i hi
  obtain⟨e,h1,h2,h3⟩:=A4 l ho hi
  have h4:=hr e h1 h2
  rcases h3 with h3|h3
  ·rw[h3];exact h4
  ·have h5:=hd.before j o ho e h1 h2
   have Gv:=(List.getElem?_eq_some_iff.1 ho).1
   have RH:l[e.on]? =some l[e.on]:=List.getElem?_eq_getElem (by omega)
   exact ih e.on h5 _ RH (hL _ _ RH h4) i h3
theorem mf:∀{l:List Oper},k9 (l.filterMap (·.dst))=true→∀(i j:Nat) (a b:Oper) (d:Nat),l[i]? =some a→l[j]? =some b→a.dst=some d→b.dst=some d→i=j
 |[],_,i,j,a,b,d,hi,_,_,_=>by simp at hi
 |o::l,h,i,j,a,b,d,hi,hj,ha,hb=>by
  have tail:k9 (l.filterMap (·.dst))=true:=by
   cases e:o.dst with
   |none=>simpa [List.filterMap_cons,e] using h
   |some d'=>simp[List.filterMap_cons,e,k9] at h;exact h.2
  have no:∀(k:Nat) (c:Oper),l[k]? =some c→c.dst=some d→o.dst≠some d:=fun k c hk hc e=>by
   simp[List.filterMap_cons,e,k9] at h
   exact h.1 c (List.mem_of_getElem? hk) hc
  cases i with
  |zero=>
   cases j with
   |zero=>rfl
   |succ j=>
    simp at hi hj
    subst hi
    exact absurd ha (no j b hj hb)
  |succ i=>
   cases j with
   |zero=>
    simp at hi hj
    subst hj
    exact absurd hb (no i a hi ha)
   |succ j=>
    simp at hi hj
    rw[mf tail i j a b d hi hj ha hb]
end
end Go.En
namespace Go.En
theorem FM{h:Hp}{id:Nat}(h1:h.at id≠ .dead):id<h.length:=by
 rcases Nat.lt_or_ge id h.length with h2|h2
 ·exact h2
 ·exact absurd (by simp[Hp.at,List.getElem?_eq_none h2]) h1
theorem Iw{h:Hp}{id:Nat}(h1:id<h.length):h[id]? =some (h.at id):=by
 simp[Hp.at,List.getElem?_eq_getElem h1]
theorem Ou{h:Hp}{id:Nat}(h1:id<h.length):h.set id (h.at id)=h:=by
 apply List.ext_getElem?
 intro j
 rw[List.getElem?_set]
 by_cases e:id=j
 ·subst e;rw[if_pos rfl,if_pos h1,Iw h1]
 ·rw[if_neg e]
theorem PJ{h h':Hp}(hl:h.length=h'.length)(ha:∀id,id<h.length→h.at id=h'.at id):h=h':=by
 apply List.ext_getElem?
 intro j
 rcases Nat.lt_or_ge j h.length with h1|h1
 ·rw[Iw h1,Iw (by omega),ha j h1]
 ·rw[List.getElem?_eq_none h1,List.getElem?_eq_none (by omega)]
theorem TE{h H:Hp}{x:AV}{xs:List PV}(Cr:∀id,id<h.length→H.at id=h.at id)(hp:rM h x=some xs):rM H x=some xs:=by
 unfold rM at hp ⊢
 split at hp
 ·exact hp
 ·exact hp
 ·exact hp
 ·rename_i id g off len
  have:h.at id≠ .dead:=by
   intro e
   rw[e] at hp
   cases hp
  rw[Cr id (FM this)]
  exact hp
 ·cases hp
theorem GV{T:cX}{h H h':Hp}{t wid:Nat}{a v:AV}(aH:(match a with| .ref id _=>some id| .elt id _ _ _=>some id|_=>none)=some wid)(Cr:∀id,id<h.length→H.at id=h.at id)(he:ni T h t a v=some h'):
  ∃o,h'=h.set wid o∧ni T H t a v=some (H.set wid o):=by
 unfold ni at he ⊢
 split at he
 ·cases he
 ·rename_i i hi
  split at he
  ·rename_i hc
   split at he
   ·rename_i id off
    cases aH
    split at he
    ·rename_i cs ho
     split at he
     ·rename_i Gz
      cases he
      have yd:H.at wid=.box cs:=by rw[Cr wid (FM (by rw[ho];simp)),ho]
      refine⟨_,rfl, ?_⟩
      simp only[hi,if_pos hc,yd,if_pos Gz]
     ·cases he
    ·cases he
   ·rename_i id g j off
    cases aH
    split at he
    ·rename_i g' sz es ps ho A6
     split at he
     ·rename_i Gz
      simp only[Option.bind_eq_some_iff,Option.map_eq_some_iff] at he
      obtain⟨x,h1,y,h2,rfl⟩:=he
      have yd:H.at wid=.arr g' sz false es:=by rw[Cr wid (FM (by rw[ho];simp)),ho]
      refine⟨_,rfl, ?_⟩
      simp only[hi,if_pos hc,yd,A6,if_pos Gz,h1,h2,Option.bind_some,Option.map_some]
     ·cases he
    ·cases he
   ·cases he
  ·cases he
theorem Ji{T:cX}{h H:Hp}{tm:Tm}{op:Op}{r:Hp×AV}{wid:Nat}(aH:dY tm op=some wid)(hw:wid<h.length)(hlen:h.length≤H.length)(Cr:∀id,id<h.length→H.at id=h.at id)(he:wc T h tm op=some r):
  ∃o,r.1=h.set wid o∧wc T H tm op=some (H.set wid o,r.2):=by
 cases op<;>simp only[dY] at aH<;>try (cases aH;done)
 case store t a v=>
  simp only[wc,Option.map_eq_some_iff] at he
  obtain⟨h',h1,rfl⟩:=he
  obtain⟨o,h2,h3⟩:=GV (wid:=wid) (a:=uv (aX tm a)) (by
   generalize uv (aX tm a)=q at aH ⊢
   cases q<;>first|exact aH|cases aH) Cr h1
  exact⟨o,h2,by simp only[wc,h3,Option.map_some]⟩
 case call c=>
  obtain⟨callee,args,argTypes⟩:=c
  cases callee<;>simp only at aH<;>try (cases aH;done)
  rename_i b
  cases b<;>simp only at aH<;>try (cases aH;done)
  split at aH
  ·rename_i id g off len x hx
   cases aH
   simp only[wc,hx] at he ⊢
   split at he
   ·rename_i q1 q2 t t' e1 e2
    cases e1
    split at he
    ·rename_i g' sz sh es e u e' xs ho ee ee' hp
     rw[Cr wid hw,ho,ee,ee',TE Cr hp]
     split at he
     ·rename_i hc
      simp only[if_pos hc]
      split at he
      ·rename_i Gz
       simp only[if_pos Gz]
       split at he
       ·rename_i WU
        cases he
        refine⟨h.at wid,(Ou hw).symm, ?_⟩
        rw[if_pos WU,←Cr wid hw,Ou (by omega)]
       ·rename_i WU
        cases he
        exact⟨_,rfl,by rw[if_neg WU]⟩
      ·rename_i Gz
       simp only[if_neg Gz]
       split at he
       ·rename_i WU
        cases he
        exact⟨_,rfl,by rw[if_pos WU]⟩
       ·cases he
     ·cases he
    ·cases he
   ·cases he
  ·cases aH
end Go.En
namespace Go.En
open Go.RowKit
section
variable {P:Program} {T:cX} {L:ct} {x:X} {rn:Option Nat} {W:List Nat} {g:Option Bool} {o:Oper} {s s':St}
theorem B8{tm lq:Tm}{op:Op}(hx:∀y∈op.operands.toList,aX tm y=aX lq y):dY tm op=dY lq op:=by
 cases op<;>try rfl
 case store t a v=>
  simp only[dY]
  rw[hx a (by simp[Op.operands])]
 case call c=>
  obtain⟨callee,args,argTypes⟩:=c
  simp only[dY]
  rw[je (lq:=lq) fun y hy=>hx y (by simp only[Op.operands,Call.operands,Array.toList_append,List.mem_append];exact .inr hy)]
def zf(L:ct)(rn:Option Nat)(P:Program)(o:Oper)(s:St)(v:AV)(W:List Nat)(ob:List Obj):Prop:=
 ∀(F:e_) (C:Cx) (H:Hp) (w:World) (a:Act) (ops:Array Oper),C.L=L→Mem F C H w→s.hp.length≤H.length→(∀id,id<s.hp.length→H.at id=s.hp.at id)→
  (∀i∈slotsOf o.op.operands.toList,ar C H.length (look s.tm i) (a.tmps.getD i Go.undef))→Region.wanted o (yielded ops a.tmps)=true→
  pv rn P ops o a w fun u w'=>∃C',Ext H.length C C'∧(∀id,id<H.length→id ∉ W→C'.μ id=C.μ id)∧Mem F C' (eY H W ob) w'∧ar C' H.length v u
theorem K2{T:cX}{h:Hp}{tm lq:Tm}{op:Op}{wid:Nat}(aH:dY tm op=some wid)(hx:∀y∈op.operands.toList,aX tm y=aX lq y):wc T h tm op=wc T h lq op:=by
 cases op<;>simp only[dY] at aH<;>try (cases aH;done)
 case store t a v=>
  simp only[wc]
  rw[hx a (by simp[Op.operands]),hx v (by simp[Op.operands])]
 case call c=>
  obtain⟨callee,args,argTypes⟩:=c
  cases callee<;>simp only at aH<;>try (cases aH;done)
  rename_i b
  cases b<;>simp only at aH<;>try (cases aH;done)
  simp only[wc]
  rw[je (lq:=lq) fun y hy=>hx y (by simp only[Op.operands,Call.operands,Array.toList_append,List.mem_append];exact .inr hy)]
theorem UF{wid:Nat}(h1:dY s.tm o.op=some wid)(h3:g.getD true=true)(he:jP x s.hp false g o s=some s'):
  (∀d,o.dst=some d→d<x.nt)∧gu true s.tm o.op=true∧∃r,wc x.T s.hp s.tm o.op=some r∧s'=⟨bJ s.tm o.dst (m8 g r.2),r.1⟩:=by
 ·unfold jP at he
  obtain⟨_,h0,he⟩:=au he
  have hd:∀d,o.dst=some d→d<x.nt:=fun d e=>by
   have:=df h0
   rw[e] at this
   simpa [cF] using this
  have hA:pY x.T (ly x.T x.f o.dst) s.hp s.tm o.op=none∧sr x.T s.hp s.tm o.op=none∧eJ o.op=none:=by
   generalize o.op=op at h1
   cases op<;>simp only[dY] at h1<;>try (cases h1;done)
   case store t a v=>exact⟨rfl,rfl,rfl⟩
   case call c=>
    obtain⟨callee,args,argTypes⟩:=c
    cases callee<;>simp only at h1<;>try (cases h1;done)
    rename_i b
    cases b<;>simp only at h1<;>try (cases h1;done)
    refine⟨?_,rfl,rfl⟩
    split at h1
    ·rename_i id gg off len y hy
     obtain⟨u,v,rfl,e1,e2⟩:=CD hy
     simp only[pY]
     split
     ·rename_i q1 q2 t t' e3 e4
      simp only[List.cons.injEq,and_true] at e3
      obtain⟨rfl,rfl⟩:=e3
      rw[e1]
     ·rfl
    ·cases h1
  rw[hA.1,hA.2.1,hA.2.2] at he
  simp only[aW] at he
  obtain⟨_,hk,he⟩:=au he
  have hk:=df hk
  rw[if_pos h3,if_neg (by simp)] at he
  obtain⟨r,hr,he⟩:=au he
  cases he
  exact⟨hd,by simpa [h3] using hk,r,hr,rfl⟩
theorem abZ(hK:Known L P x){wid:Nat}(aH:dY s.tm o.op=some wid)(Na:wid<s.hp.length)(WO:g.getD true=true)(he:jP x s.hp false g o s=some s'):
  (∀d,o.dst=some d→d<x.nt)∧∃v ob,s'=⟨bJ s.tm o.dst v,eY s.hp [wid] [ob]⟩∧zf L rn P o s v [wid] [ob]:=by
 obtain⟨h1,hk,r,hW,hσ⟩:=UF aH WO he
 obtain⟨ob,mi,_⟩:=Ji (H:=s.hp) aH Na (Nat.le_refl _) (fun _ _=>rfl) hW
 refine⟨h1,m8 g r.2,ob,by rw[hσ,mi];rfl,fun F C H w a ops hL hm Mv Cr xY vi=> ?_⟩
 obtain⟨ob2,zD,RL⟩:=Ji aH Na Mv Cr hW
 have Uh:ob2=ob:=by
  have e:s.hp.set wid ob=s.hp.set wid ob2:=by rw[←mi,←zD]
  have:=congrArg (fun h=>Hp.at h wid) e
  simp only[pj Na] at this
  exact this.symm
 subst Uh
 have Gy:∀y∈o.op.operands.toList,aX s.tm y=aX (only s.tm (slotsOf o.op.operands.toList)) y:=fun y hy=>xn hy
 rw[K2 aH Gy] at RL
 have gq:∀t,ar C H.length (look (only s.tm (slotsOf o.op.operands.toList)) t) (a.tmps.getD t Go.undef):=by
  intro t
  unfold only
  rw[oB]
  split
  ·exact xY t (by assumption)
  ·exact .undef _
 rw[mA Gy] at hk
 obtain⟨v,w',C',h2,h3,h4,h5,h6,h7⟩:=An hK.T hm gq RL hk
 have LC:dY (only s.tm (slotsOf o.op.operands.toList)) o.op=some wid:=by
  rw[←B8 Gy];exact aH
 have WL:∀id,id<H.length→id ∉ [wid]→C'.μ id=C.μ id:=fun id _ hn=>h7 id (by rw[LC];intro e;cases e;simp at hn)
 have Uc:ar C' H.length (m8 g r.2) v:=fS WO h6
 rcases h2 with h2|⟨h2,rfl⟩
 ·exact kW (pI RL) vi h2 ⟨C',h3,WL,h4,Uc⟩
 ·exact AU (pI RL) vi h2 ⟨C',h3,WL,h4,Uc⟩
theorem ab0(hK:Known L P x)(bW:∀id∈W,id<s.hp.length)(fW:W.Nodup)(WO:g.getD true=true)(he:mD x W g o s=some s'):
  (∀d,o.dst=some d→d<x.nt)∧∃v ob,s'=⟨bJ s.tm o.dst v,eY s.hp W ob⟩∧zf L rn P o s v W ob∧ob.length=W.length:=by
 unfold mD at he
 obtain⟨_,h0,he⟩:=au he
 have hd:∀d,o.dst=some d→d<x.nt:=fun d e=>by
  have:=df h0
  rw[e] at this
  simpa [cF] using this
 obtain⟨⟨f,l⟩,hC,he⟩:=au he
 obtain⟨c,ho,vQ,rfl⟩:=nI hC
 obtain⟨_,hk,he⟩:=au he
 have hk:=df hk
 obtain⟨⟨fi,as⟩,rm,he⟩:=au he
 simp only at rm he
 obtain⟨_,h1,he⟩:=au he
 have h1:=df h1
 simp only[decide_eq_true_eq] at h1
 obtain⟨ER,hre⟩:=h1
 obtain⟨r,dZ,he⟩:=au he
 obtain⟨_,hlen,he⟩:=au he
 have hlen:=df hlen
 simp only[decide_eq_true_eq] at hlen
 cases he
 generalize oN:x.T.muts fi=mu at ER hre dZ
 unfold cJ at dZ
 rw[hre] at dZ
 obtain⟨_,k1,dZ⟩:=au dZ
 have k1:=df k1
 simp only[Bool.and_eq_true,List.all_eq_true,decide_eq_true_eq] at k1
 obtain⟨UZ,k2,dZ⟩:=au dZ
 obtain⟨h',k3,dZ⟩:=au dZ
 obtain⟨q,k4,dZ⟩:=au dZ
 obtain⟨_,k5,dZ⟩:=au dZ
 have k5:=df k5
 simp only[Bool.and_eq_true,decide_eq_true_eq] at k5
 obtain⟨v,k6,dZ⟩:=au dZ
 obtain⟨h2,k7,dZ⟩:=au dZ
 cases dZ
 have hq:q.2.length=W.length:=by
  have e:=(dD k7).1
  simp only[List.length_append,cC,List.length_drop] at hlen
  omega
 have WS:h2.drop W.length=[]:=by
  have e:=(dD k7).1
  exact List.drop_eq_nil_of_le (by omega)
 have aV:=hK.calls _ _ _ _ k4
 refine⟨hd,m8 g v,h2,by simp[WS],fun F C H w a ops hL hm Mv Cr xY vi=> ?_,by rw[(dD k7).1];exact hq⟩
 have Gy:∀y∈o.op.operands.toList,aX s.tm y=aX (only s.tm (slotsOf o.op.operands.toList)) y:=fun y hy=>xn hy
 have gq:∀t,ar C H.length (look (only s.tm (slotsOf o.op.operands.toList)) t) (a.tmps.getD t Go.undef):=by
  intro t
  unfold only
  rw[oB]
  split
  ·exact xY t (by assumption)
  ·exact .undef _
 have key:∃first abY,a.eval f=.func (.func fi) first abY∧(first++c.args.map a.eval++abY).size=as.length∧∀k,k<as.length→ar C H.length (as.getD k .undef) ((first++c.args.map a.eval++abY).getD k Go.undef):=by
  have H2:=Gy
  rw[mA Gy] at hk
  rw[ho] at H2 hk gq
  have e1:gG s.tm c.args.toList=gG (only s.tm (slotsOf (Op.call c).operands.toList)) c.args.toList:=
   je fun y hy=>H2 y (by simp only[Op.operands,Call.operands,Array.toList_append,List.mem_append];exact .inr hy)
  have e2:∀as,dH s.tm f as=dH (only s.tm (slotsOf (Op.call c).operands.toList)) f as:=fun as=>
   qu (H2 f (by simp[Op.operands,Call.operands,vQ]))
  rw[e2,e1] at rm
  exact uN (ht:=gq) vQ hk rm
 obtain⟨first,abY,hv,hs,hr⟩:=key
 obtain⟨b1,b2⟩:=yP (rd:=s.hp) hm (fun id aH=>Cr id (FM aH)) hs hr mu
 have nX:=hm.share (bO mu as)
 rw[ER] at nX b2
 have nX:Mem F (C.withM (shown C H [] w)) H w:=nX
 have Um:∀id∈W,id<H.length:=fun id aH=>Nat.lt_of_lt_of_le (bW id aH) Mv
 have eW:W.map H.at=W.map s.hp.at:=List.map_congr_left fun id aH=>Cr id (bW id aH)
 rw[←eW] at k3
 obtain⟨m1,m2⟩:=nX.sub k3 Um fW
 have Sb:=(dD k2).1
 refine jg (i7 ho) vi (mw ho vQ hv aV.fn) ((aV.calls w (qC (C.withM (shown C H [] w)) W) _ hL m1 (by omega) (fun k hk=> ?_)).mono fun e w' he=> ?_)
 ·rw[m2]
  exact oj (wN Um) (kr k2 (by omega)) (b2 k (by omega))
 ·cases e with
  |returned u=>
   obtain⟨C1,g1,g2,g3,g4,_⟩:=he
   obtain⟨g5,g6⟩:=nX.unsub fW Um (fun id aH=>by rw[Cr id (bW id aH)];exact(k1.2 id aH).2) m2 g1 g2 g3 (by omega) (Nat.le_trans k5.1.2 Mv) k5.2 (.inl hq) k7
   rw[WS,List.append_nil] at g5
   refine⟨_,(fQ (C:=C) (h:=H) (w:=w) [] H.length).trans g6,fun id aH hn=>ra hn aH,g5,fS WO ?_⟩
   have:=DN (ue (C:=C.withM (shown C H [] w)) (h2:=q.2) fW Um (.inl hq)) k6 g4
   rwa [hq,Nat.sub_self,Nat.add_zero] at this
  |panicked _=>exact he.elim
  |outgrown=>exact he.elim
theorem nD(hK:Known L P x)(he:oX x W g o s=some s'):
  g.getD true=true∧W.Nodup∧(∀id∈W,id<s.hp.length)∧(∀d,o.dst=some d→d<x.nt)∧∃v ob,s'=⟨bJ s.tm o.dst v,eY s.hp W ob⟩∧zf L rn P o s v W ob∧ob.length=W.length:=by
 unfold oX at he
 split at he
 ·rename_i hc
  obtain⟨h1,h2,h3⟩:=hc
  have fW:=xx h2
  have bW:∀id∈W,id<s.hp.length:=by simpa [List.all_eq_true] using h3
  refine⟨h1,fW,bW, ?_⟩
  split at he
  ·rename_i wid aH
   split at he
   ·rename_i hW
    subst hW
    obtain⟨k1,v,ob,k2,k3⟩:=abZ (rn:=rn) hK aH (bW wid (by simp)) h1 he
    exact⟨k1,v,[ob],k2,k3,rfl⟩
   ·cases he
  ·exact ab0 hK bW fW h1 he
 ·cases he
end
end Go.En
namespace Go.En
open Go.RowKit
def ze(x:X)(l:List Oper)(sq:List Nat)(lt:List (Nat×List Nat×List Nat))(σ:Nat→St)(ρ:Nat→Hp)(j:Nat)(o:Oper):Prop:=
 ∃g,guardOf l (σ j).tm o.guard=some g∧
  ((j∈sq∧jP x (σ j).hp false g o (σ j)=some (σ (j+1))∧ρ (j+1)=(σ (j+1)).hp)∨
   (j ∉ sq∧ρ (j+1)=ρ j∧((∃wid,cQ lt j=some wid∧oX x wid g o (σ j)=some (σ (j+1)))∨
     (cQ lt j=none∧jP x (iz lt j (σ j).hp) true g o (σ j)=some (σ (j+1))∧lW lt j (σ j).hp.length (σ (j+1)).hp.length=true))))
theorem sV{x:X}{l:List Oper}{sq:List Nat}{lt:List (Nat×List Nat×List Nat)}{s':St}:∀(r:List Oper) (k:Nat) (rd:Hp) (s:St),l.drop k=r→jf x l sq lt r k rd s=some s'→
  ∃(σ:Nat→St) (ρ:Nat→Hp),σ k=s∧ρ k=rd∧σ (k+r.length)=s'∧∀(j:Nat) (o:Oper),k≤j→l[j]? =some o→ze x l sq lt σ ρ j o
 |[],k,rd,s,hl,he=>by
  simp[jf] at he
  subst he
  refine⟨fun _=>s,fun _=>rd,rfl,rfl,rfl,fun j o hj ho=> ?_⟩
  have:=(List.getElem?_eq_some_iff.1 ho).1
  have:=List.drop_eq_nil_iff.1 hl
  omega
 |o::r,k,rd,s,hl,he=>by
  simp only[jf] at he
  obtain⟨g,hg,he⟩:=au he
  have hk:k<l.length:=by
   rcases Nat.lt_or_ge k l.length with h|h
   ·exact h
   ·rw[List.drop_eq_nil_of_le h] at hl;cases hl
  have ho:l[k]? =some o:=by
   have:=congrArg List.head? hl
   rw[List.head?_drop] at this
   simpa using this
  have Lz:l.drop (k+1)=r:=by
   have:=congrArg List.tail hl
   rw[List.tail_drop] at this
   simpa using this
  have key:∀(s1:St) (MU:Hp),jf x l sq lt r (k+1) MU s1=some s'→((k∈sq∧jP x s.hp false g o s=some s1∧MU=s1.hp)∨
     (k ∉ sq∧MU=rd∧((∃wid,cQ lt k=some wid∧oX x wid g o s=some s1)∨(cQ lt k=none∧jP x (iz lt k s.hp) true g o s=some s1∧lW lt k s.hp.length s1.hp.length=true))))→
    ∃(σ:Nat→St) (ρ:Nat→Hp),σ k=s∧ρ k=rd∧σ (k+(o::r).length)=s'∧∀(j:Nat) (o:Oper),k≤j→l[j]? =some o→ze x l sq lt σ ρ j o:=by
   intro s1 MU h1 h2
   obtain⟨σ,ρ,h3,h4,h5,h6⟩:=sV r (k+1) MU s1 Lz h1
   refine⟨fun j=>if j=k then s else σ j,fun j=>if j=k then rd else ρ j,by simp,by simp, ?_,fun j o' hj lM=> ?_⟩
   ·simp only[List.length_cons]
    rw[if_neg (by omega),←h5,show k+(r.length+1)=k+1+r.length from by omega]
   ·by_cases RE:j=k
    ·subst RE
     rw[ho] at lM;cases lM
     refine⟨g,by simpa using hg, ?_⟩
     simp only[if_true,show j+1≠j from by omega,if_false,h3,h4]
     exact h2
    ·have:=h6 j o' (by omega) lM
     unfold ze at this ⊢
     simp only[RE,if_false,show j+1≠k from by omega]
     exact this
  split at he
  ·rename_i hs
   obtain⟨s1,h1,he⟩:=au he
   exact key s1 _ he (.inl ⟨by simpa using hs,h1,rfl⟩)
  ·rename_i hs
   cases hi:cQ lt k with
   |some wid=>
    rw[hi] at he
    simp only[bd] at he
    obtain⟨s1,h1,he⟩:=au he
    exact key s1 _ he (.inr ⟨by simpa using hs,rfl,.inl ⟨wid,hi,h1⟩⟩)
   |none=>
    rw[hi] at he
    simp only[aW] at he
    obtain⟨s1,h1,he⟩:=au he
    obtain⟨_,h2,he⟩:=au he
    exact key s1 _ he (.inr ⟨by simpa using hs,rfl,.inr ⟨hi,h1,df h2⟩⟩)
theorem Ll{lt:List (Nat×List Nat×List Nat)}{j:Nat}{W W':List Nat}(h:cQ lt j=some W)(h':cQ lt j=some W'):W=W':=by
 rw[h] at h';cases h';rfl
theorem nx{j:Nat}{W:List Nat}:∀{lt:List (Nat×List Nat×List Nat)},cQ lt j=some W→∃an,(j,W,an)∈lt
 |[],h=>by cases h
 |(k,W',an)::r,h=>by
  simp only[cQ] at h
  split at h
  ·rename_i e;cases h;subst e;exact⟨an,List.mem_cons_self ..⟩
  ·obtain⟨an',h'⟩:=nx h
   exact⟨an',List.mem_cons_of_mem _ h'⟩
theorem Jf{α:Type}{R:α→α→Prop}:∀{l:List α},l.Pairwise R→∀a∈l,∀b∈l,a=b∨R a b∨R b a
 |[],_,a,ha,_,_=>by cases ha
 |x::r,h,a,ha,b,hb=>by
  cases h with
  |cons h1 h2=>
   rcases List.mem_cons.1 ha with e|zH
   ·rcases List.mem_cons.1 hb with e'|EW
    ·exact .inl (e.trans e'.symm)
    ·subst e;exact .inr (.inl (h1 b EW))
   ·rcases List.mem_cons.1 hb with e'|EW
    ·subst e';exact .inr (.inr (h1 a zH))
    ·exact Jf h2 a zH b EW
theorem Er{l:List Oper}{sq:List Nat}{lt:List (Nat×List Nat×List Nat)}(hd:uS l sq lt){j j':Nat}{W W':List Nat}(h:cQ lt j=some W)(h':cQ lt j'=some W'):
  j=j'∨j∈((mU l)[j']?).getD []∨j'∈((mU l)[j]?).getD []:=by
 obtain⟨an,h1⟩:=nx h
 obtain⟨an',nA⟩:=nx h'
 rcases Jf hd.lates _ h1 _ nA with e|h2|h2
 ·exact .inl (congrArg (·.1) e)
 ·exact .inr (.inl h2)
 ·exact .inr (.inr h2)
theorem xS{l:List Oper}{sq:List Nat}{lt:List (Nat×List Nat×List Nat)}(hd:uS l sq lt){j:Nat}{W:List Nat}(h:cQ lt j=some W):∃an,(j,W,an)∈lt∧∀i∈an,i∈((mU l)[j]?).getD []:=by
 obtain⟨an,h1⟩:=nx h
 exact⟨an,h1,hd.late _ h1⟩
theorem oF:∀{lt:List (Nat×List Nat×List Nat)} {j a b:Nat},lW lt j a b=true→∀e∈lt,j∈e.2.2∨∀id∈e.2.1,id<a∨b≤id
 |[],_,_,_,_,e,he=>by cases he
 |(k,W,an)::r,j,a,b,h,e,he=>by
  simp only[lW,Bool.and_eq_true,Bool.or_eq_true,List.all_eq_true,decide_eq_true_eq] at h
  rcases List.mem_cons.1 he with rfl|he
  ·exact h.1.imp (fun h=>by simpa using h) id
  ·exact oF h.2 e he
theorem TB{W:List Nat}{h h':Hp}{r:List Obj}{id:Nat}(fW:W.Nodup)(aH:id∈W)(hl:id<h.length)(Lz:id<h'.length)(hr:W.length≤r.length):(eY h W r).at id=(eY h' W r).at id:=by
 obtain⟨j,hj,e⟩:=List.getElem_of_mem aH
 have iO:W[j]? =some id:=by rw[List.getElem?_eq_getElem hj,e]
 rw[v9 fW iO hl (by omega),v9 fW iO Lz (by omega)]
structure J1(x:X)(l:List Oper)(sq:List Nat)(σ:Nat→St)(ρ:Nat→Hp)(p q:Nat):Prop where
 le:p≤q
 top:q≤l.length
 free:∀j,p≤j→j<q→j ∉ sq
 stop:q=l.length∨q∈sq
 rd:ρ p=(σ p).hp
section
variable {P:Program} {x:X} {A:At} {LT:ct} {ops:Array Oper} {sq:List Nat} {lt:List (Nat×List Nat×List Nat)} {σ:Nat→St} {ρ:Nat→Hp} {p q:Nat}
theorem J1.exists(l:List Oper):∀(n p:Nat),p+n=l.length→ρ p=(σ p).hp→∃q,J1 x l sq σ ρ p q
 |0,p,h,hr=>⟨p,Nat.le_refl _,by omega,fun j h1 h2=>by omega,.inl (by omega),hr⟩
 |n+1,p,h,hr=>by
  by_cases hp:p∈sq
  ·exact⟨p,Nat.le_refl _,by omega,fun j h1 h2=>by omega,.inr hp,hr⟩
  ·
   have:∀(m k:Nat),k+m=l.length→(∀j,p≤j→j<k→j ∉ sq)→p≤k→∃q,J1 x l sq σ ρ p q:=by
    intro m
    induction m with
    |zero=>exact fun k hk hf VH=>⟨k,VH,by omega,hf,.inl (by omega),hr⟩
    |succ m ih=>
     intro k hk hf VH
     by_cases tv:k∈sq
     ·exact⟨k,VH,by omega,hf,.inr tv,hr⟩
     ·exact ih (k+1) (by omega) (fun j h1 h2=>by
       rcases Nat.lt_or_ge j k with h3|h3
       ·exact hf j h1 h3
       ·have:j=k:=by omega
        subst this;exact tv) (by omega)
   exact this (n+1) p h (fun j h1 h2=>by omega) (Nat.le_refl _)
variable (hK:Known LT P x)
variable (l5:∀(j:Nat) (o:Oper),ops.toList[j]? =some o→ze x ops.toList sq lt σ ρ j o)
include hK l5
theorem G0(hs:J1 x ops.toList sq σ ρ p q){j:Nat}{o:Oper}(hj:p≤j)(hq:j<q)(ho:ops.toList[j]? =some o):∃g,guardOf ops.toList (σ j).tm o.guard=some g∧
  ((∃wid,cQ lt j=some wid∧oX x wid g o (σ j)=some (σ (j+1)))∨(cQ lt j=none∧jP x (iz lt j (σ j).hp) true g o (σ j)=some (σ (j+1))∧lW lt j (σ j).hp.length (σ (j+1)).hp.length=true)):=by
 obtain⟨g,h1,h2⟩:=l5 j o ho
 rcases h2 with⟨h2,_⟩|⟨_,_,h3⟩
 ·exact absurd h2 (hs.free _ hj hq)
 ·exact⟨g,h1,h3⟩
theorem wZ(hs:J1 x ops.toList sq σ ρ p q){j:Nat}(hj:p≤j)(hq:j<q):∃o,ops.toList[j]? =some o∧∃v,(σ (j+1)).tm=bJ (σ j).tm o.dst v∧
  ((cQ lt j=none∧∃os:List Obj,(σ (j+1)).hp=(σ j).hp++os)∨∃W ob,cQ lt j=some W∧(W.Nodup∧∀id∈W,id<(σ j).hp.length)∧(σ (j+1)).hp=eY (σ j).hp W ob):=by
 have bW:j<ops.toList.length:=by have:=hs.top;omega
 refine⟨_,List.getElem?_eq_getElem bW, ?_⟩
 obtain⟨g,_,h2⟩:=G0 hK l5 hs hj hq (List.getElem?_eq_getElem bW)
 rcases h2 with⟨wid,h2,h3⟩|⟨h2,h3,_⟩
 ·obtain⟨_,h5,h6,_,v,ob,h7,_⟩:=nD (rn:=none) hK h3
  exact⟨v,by rw[h7],.inr ⟨wid,ob,h2,⟨h5,h6⟩,by rw[h7]⟩⟩
 ·obtain⟨_,v,os,h4,_⟩:=AR (rn:=none) hK.T hK.glob hK.calls h3
  exact⟨v,by rw[h4],.inl ⟨h2,os,by rw[h4]⟩⟩
theorem eQ(hs:J1 x ops.toList sq σ ρ p q){i:Nat}(hi:p≤i):∀d,i+d≤q→(σ i).hp.length≤(σ (i+d)).hp.length
 |0,_=>Nat.le_refl _
 |d+1,h=>by
  have ih:=eQ hs hi d (by omega)
  obtain⟨o,_,v,_,h1⟩:=wZ hK l5 hs (j:=i+d) (by omega) (by omega)
  rw[show i+(d+1)=i+d+1 from by omega]
  rcases h1 with⟨_,os,h1⟩|⟨wid,ob,_,_,h1⟩
  ·rw[h1];simp;omega
  ·rw[h1,cC];omega
theorem G1(hs:J1 x ops.toList sq σ ρ p q){i id:Nat}(hi:p≤i)(aH:id<(σ i).hp.length):∀d,i+d≤q→(∀j wid,i≤j→j<i+d→cQ lt j=some wid→id ∉ wid)→(σ (i+d)).hp.at id=(σ i).hp.at id
 |0,_,_=>rfl
 |d+1,h,hn=>by
  have ih:=G1 hs hi aH d (by omega) (fun j wid h1 h2 h3=>hn j wid h1 (by omega) h3)
  have hl:=eQ hK l5 hs hi d (by omega)
  obtain⟨o,_,v,_,h1⟩:=wZ hK l5 hs (j:=i+d) (by omega) (by omega)
  rw[show i+(d+1)=i+d+1 from by omega,←ih]
  rcases h1 with⟨_,os,h1⟩|⟨wid,ob,h2,h3,h1⟩
  ·rw[h1];simp only[Hp.at];rw[List.getElem?_append_left (by omega)]
  ·rw[h1,gM (hn (i+d) wid (by omega) (by omega) h2)]
theorem og(hs:J1 x ops.toList sq σ ρ p q){i t:Nat}(hi:p≤i):∀d,i+d≤q→(∀(j:Nat) (o:Oper),i≤j→j<i+d→ops.toList[j]? =some o→o.dst≠some t)→look (σ (i+d)).tm t=look (σ i).tm t
 |0,_,_=>rfl
 |d+1,h,hn=>by
  have ih:=og hs hi d (by omega) (fun j o h1 h2=>hn j o h1 (by omega))
  obtain⟨o,ho,v,h1,_⟩:=wZ hK l5 hs (j:=i+d) (by omega) (by omega)
  rw[show i+(d+1)=i+d+1 from by omega,h1,ub,if_neg (hn (i+d) o (by omega) (by omega) ho),ih]
def Cut(lt:List (Nat×List Nat×List Nat))(p q:Nat)(L:Nat→Prop)(id m:Nat):Prop:=∀(j:Nat) (W:List Nat),p≤j→j<q→cQ lt j=some W→id∈W→(L j↔j<m)
structure U5(lt:List (Nat×List Nat×List Nat))(σ:Nat→St)(p q:Nat)(L:Nat→Prop)(H:Hp):Prop where
 len:H.length=(σ q).hp.length
 mem:∀id m,p≤m→m≤q→id<(σ m).hp.length→Cut lt p q L id m→H.at id=(σ m).hp.at id
structure rL(A:At)(l:List Oper)(lt:List (Nat×List Nat×List Nat))(σ:Nat→St)(p q:Nat)(L:Nat→Prop)(C:Cx)(a:Act)(w:World):Prop where
 size:a.tmps.size=A.nt
 defers:Marks A.F.w0 C a.defers
 mem:∃H,U5 lt σ p q L H∧Mem A.F C H w
 ext:Ext A.n0 A.C0 C
 len:A.n0≤(σ p).hp.length
 old:∀(t j:Nat) (o:Oper),p≤j→j<q→¬L j→l[j]? =some o→o.dst=some t→ar C (σ q).hp.length (look (σ p).tm t) (a.tmps.getD t Go.undef)
 new:∀t:Nat,(∀(j:Nat) (o:Oper),p≤j→j<q→l[j]? =some o→o.dst=some t→L j)→ar C (σ q).hp.length (look (σ q).tm t) (a.tmps.getD t Go.undef)
 none:∀j,p≤j→j<q→¬L j→∀id,(σ j).hp.length≤id→id<(σ (j+1)).hp.length→C.μ id=.none
theorem Ab(hd:uS ops.toList sq lt)(hs:J1 x ops.toList sq σ ρ p q){L:Nat→Prop}(hL:∀j,p≤j→j<q→¬L j){C:Cx}{a:Act}{w:World}(hr:Rel A C (σ p) a w):∃C',rL A ops.toList lt σ p q L C' a w:=by
 classical
 have VB:=hs.le
 have hle:=eQ hK l5 hs (Nat.le_refl p) (q-p) (by omega)
 rw[show p+(q-p)=q from by omega] at hle
 have hH:∃H:Hp,U5 lt σ p q L H∧∀id,id<(σ p).hp.length→H.at id=(σ p).hp.at id:=by
  let pick:Nat→Obj:=fun id=>if h:∃m,p≤m∧m≤q∧id<(σ m).hp.length∧Cut lt p q L id m then(σ h.choose).hp.at id else .dead
  have same:∀id m m',p≤m→m≤m'→m'≤q→id<(σ m).hp.length→Cut lt p q L id m'→(σ m').hp.at id=(σ m).hp.at id:=fun id m m' h1 h2 h3 h4 h5=>by
   have:=G1 hK l5 hs h1 h4 (m'-m) (by omega) (fun j W k1 k2 k3 k4=>hL j (by omega) (by omega) ((h5 j W (by omega) (by omega) k3 k4).2 (by omega)))
   rwa [show m+(m'-m)=m' from by omega] at this
  have ny:∀id m,p≤m→m≤q→id<(σ m).hp.length→Cut lt p q L id m→pick id=(σ m).hp.at id:=fun id m h1 h2 h3 h4=>by
   have h:∃m,p≤m∧m≤q∧id<(σ m).hp.length∧Cut lt p q L id m:=⟨m,h1,h2,h3,h4⟩
   show(if h:_ then _ else _)=_
   rw[dif_pos h]
   obtain⟨k1,k2,k3,k4⟩:=h.choose_spec
   rcases Nat.le_total h.choose m with h5|h5
   ·exact(same id _ _ k1 h5 h2 k3 h4).symm
   ·exact same id _ _ h1 h5 k2 h3 k4
  have yd:∀id,id<(σ q).hp.length→Hp.at ((List.range (σ q).hp.length).map pick) id=pick id:=fun id aH=>by
   simp[Hp.at,aH]
  have hlq:∀m,p≤m→m≤q→(σ m).hp.length≤(σ q).hp.length:=fun m h1 h2=>by
   have:=eQ hK l5 hs h1 (q-m) (by omega)
   rwa [show m+(q-m)=q from by omega] at this
  refine⟨(List.range (σ q).hp.length).map pick,⟨by simp,fun id m h1 h2 h3 h4=> ?_⟩,fun id aH=> ?_⟩
  ·rw[yd id (Nat.lt_of_lt_of_le h3 (hlq m h1 h2))]
   exact ny id m h1 h2 h3 h4
  ·rw[yd id (by omega)]
   exact ny id p (Nat.le_refl _) VB aH fun j W k1 k2 _ _=>⟨fun h=>absurd h (hL j k1 k2),fun h=>by omega⟩
 obtain⟨H,hH,Cr⟩:=hH
 have acD:H=(σ p).hp++H.drop (σ p).hp.length:=by
  have e:H.take (σ p).hp.length=(σ p).hp:=by
   refine PJ (by rw[List.length_take,hH.len];omega) (fun id aH=> ?_)
   have api:id<(σ p).hp.length:=by rw[List.length_take] at aH;omega
   rw[←Cr id api]
   simp only[Hp.at,List.getElem?_take]
   rw[if_pos api]
  conv=>lhs;rw[←List.take_append_drop (σ p).hp.length H]
  rw[e]
 obtain⟨h1,h2⟩:=hr.mem.room (H.drop (σ p).hp.length)
 rw[←acD] at h1
 refine⟨_,hr.size,hr.defers.mono h2.K,⟨H,hH,h1⟩,hr.ext.trans (h2.le hr.len),hr.len,fun t j o _ _ _ _ _=>(hr.tm t).mono h2 hle,fun t hn=> ?_,fun j hj hq _ id h3 _=> ?_⟩
 ·have:=og hK l5 hs (t:=t) (Nat.le_refl p) (q-p) (by omega) (fun j o h3 h4 h5 h6=>hL j h3 (by omega) (hn j o h3 (by omega) h5 h6))
  rw[show p+(q-p)=q from by omega] at this
  rw[this]
  exact(hr.tm t).mono h2 hle
 ·have:=eQ hK l5 hs (Nat.le_refl p) (j-p) (by omega)
  rw[show p+(j-p)=j from by omega] at this
  exact iD (by omega)
omit hK l5 in
theorem I'(VB:p≤q){L:Nat→Prop}(hL:∀j,p≤j→j<q→L j)(hle:A.n0≤(σ q).hp.length){C:Cx}{a:Act}{w:World}(hr:rL A ops.toList lt σ p q L C a w):Rel A C (σ q) a w:=by
 obtain⟨H,h1,h2⟩:=hr.mem
 have e:H=(σ q).hp:=PJ h1.len fun id aH=>h1.mem id q VB (Nat.le_refl _) (by rw[←h1.len];exact aH) fun j W k1 k2 _ _=>⟨fun _=>k2,fun _=>hL j k1 k2⟩
 subst e
 exact⟨hr.size,hr.defers,fun t=>hr.new t (fun j _ h1 h2 _ _=>hL j h1 h2),h2,hr.ext,hle⟩
end
end Go.En
namespace Go.En
open Go.RowKit
theorem Ai:∀{W:List Nat} {h:Hp} {id:Nat},id∈W→(eY h W (W.map fun _=>Obj.dead)).at id=.dead
 |x::W,h,id,aH=>by
  simp only[List.map_cons,eY]
  by_cases e:id∈W
  ·exact Ai e
  ·rw[gM e]
   rcases List.mem_cons.1 aH with e1|e1
   ·subst e1
    simp only[Hp.at,List.getElem?_set]
    by_cases hx:id<h.length<;>simp[hx]
   ·exact absurd e1 e
theorem oD:∀{lt:List (Nat×List Nat×List Nat)} {j:Nat} {h:Hp} {id:Nat},(iz lt j h).at id≠ .dead→(iz lt j h).at id=h.at id∧id<h.length∧∀e∈lt,id∈e.2.1→j∈e.2.2
 |[],j,h,id,aH=>⟨rfl,FM aH,fun e he=>by cases he⟩
 |(k,W,an)::r,j,h,id,aH=>by
  simp only[iz] at aH ⊢
  split at aH
  ·rename_i hc
   rw[if_pos hc]
   obtain⟨h1,h2,h3⟩:=oD aH
   refine⟨h1,h2,fun e he ny=> ?_⟩
   rcases List.mem_cons.1 he with rfl|he
   ·simpa using hc
   ·exact h3 e he ny
  ·rename_i hc
   rw[if_neg hc]
   obtain⟨h1,h2,h3⟩:=oD aH
   have fB:id ∉ W:=fun e=>by
    rw[h1] at aH
    exact aH (Ai e)
   refine⟨h1.trans (gM fB),by rwa [cC] at h2,fun e he ny=> ?_⟩
   rcases List.mem_cons.1 he with rfl|he
   ·exact absurd ny fB
   ·exact h3 e he ny
section
variable {P:Program} {x:X} {A:At} {LT:ct} {ops:Array Oper} {sq:List Nat} {lt:List (Nat×List Nat×List Nat)} {σ:Nat→St} {ρ:Nat→Hp} {p q:Nat}
variable (hK:Known LT P x)
variable (l5:∀(j:Nat) (o:Oper),ops.toList[j]? =some o→ze x ops.toList sq lt σ ρ j o)
include hK l5
theorem Ox(hL:A.C0.L=LT)(Jz:x.nt=A.nt)(hd:uS ops.toList sq lt)(hs:J1 x ops.toList sq σ ρ p q){L:Nat→Prop}{i:Nat}{o:Oper}(hi:p≤i)(hq:i<q)(ho:ops.toList[i]? =some o)(EK:¬L i)
  (Cq:∀j∈((mU ops.toList)[i]?).getD [],L j)(sO:∀j,L j→j<ops.toList.length→∀k∈((mU ops.toList)[j]?).getD [],L k)
  {C:Cx}{a:Act}{w:World}(hr:rL A ops.toList lt σ p q L C a w):∀t∈pC ops.toList o,ar C (σ q).hp.length (look (σ i).tm t) (a.tmps.getD t Go.undef):=by
 have Nh:i=p+(i-p):=by omega
 have EE:∀(j j':Nat) (b b':Oper) (t:Nat),ops.toList[j]? =some b→ops.toList[j']? =some b'→b.dst=some t→b'.dst=some t→j=j':=mf hd.dsts
 intro t ht
 by_cases hw:∃(j:Nat) (b:Oper),p≤j∧j<q∧ops.toList[j]? =some b∧b.dst=some t
 ·obtain⟨j,b,Nq,zo,Gw,Uo⟩:=hw
  have Jk:∀(lo n:Nat),(∀k,lo≤k→k<lo+n→k≠j)→∀(k:Nat) (c:Oper),lo≤k→k<lo+n→ops.toList[k]? =some c→c.dst≠some t:=fun lo n fB k c jG jA hk3 hk4=>
   fB k jG jA (EE k j c b t hk3 Gw hk4 Uo)
  rcases Nat.lt_trichotomy j i with uw|uw|uw
  ·
   have Ra:L j:=by
    rcases hd.apart i j o b uw ho Gw with h4|h4
    ·exact Cq j h4
    ·simp only[jk,Uo,Bool.and_eq_true,Bool.not_eq_true'] at h4
     have:=h4.1.1
     simp at this
     exact absurd ht this
   have e1:=og hK l5 hs (t:=t) (i:=j+1) (by omega) (i-(j+1)) (by omega) (Jk _ _ (fun k h5 h6=>by omega))
   have e2:=og hK l5 hs (t:=t) (i:=j+1) (by omega) (q-(j+1)) (by omega) (Jk _ _ (fun k h5 h6=>by omega))
   rw[show j+1+(i-(j+1))=i from by omega] at e1
   rw[show j+1+(q-(j+1))=q from by omega] at e2
   rw[e1,←e2]
   exact hr.new t (fun k c h5 h6 h7 h8=>by rw[EE k j c b t h7 Gw h8 Uo];exact Ra)
  ·subst uw
   have e1:=og hK l5 hs (t:=t) (Nat.le_refl p) (j-p) (by omega) (Jk _ _ (fun k h5 h6=>by omega))
   rw[←Nh] at e1
   rw[e1]
   exact hr.old t j b hi hq EK Gw Uo
  ·have Ra:¬L j:=by
    intro Ra
    rcases hd.apart j i b o uw Gw ho with h4|h4
    ·exact EK (sO j Ra (List.getElem?_eq_some_iff.1 Gw).1 i h4)
    ·simp only[jk,Uo,Bool.and_eq_true,Bool.not_eq_true'] at h4
     have:=h4.2
     simp at this
     exact absurd ht this
   have e1:=og hK l5 hs (t:=t) (Nat.le_refl p) (i-p) (by omega) (Jk _ _ (fun k h5 h6=>by omega))
   rw[←Nh] at e1
   rw[e1]
   exact hr.old t j b Nq zo Ra Gw Uo
 ·have no:∀(k:Nat) (c:Oper),p≤k→k<q→ops.toList[k]? =some c→c.dst≠some t:=fun k c h5 h6 h7 h8=>hw ⟨k,c,h5,h6,h7,h8⟩
  have e1:=og hK l5 hs (t:=t) hi (q-i) (by omega) (fun k c h5 h6=>no k c (by omega) (by omega))
  rw[show i+(q-i)=q from by omega] at e1
  rw[←e1]
  exact hr.new t (fun k c h5 h6 h7 h8=>absurd h8 (no k c h5 h6 h7))
theorem Ow(hL:A.C0.L=LT)(Jz:x.nt=A.nt)(hd:uS ops.toList sq lt)(hs:J1 x ops.toList sq σ ρ p q){L:Nat→Prop}{i:Nat}{o:Oper}(hi:p≤i)(hq:i<q)(ho:ops.toList[i]? =some o)(EK:¬L i)
  (Cq:∀j∈((mU ops.toList)[i]?).getD [],L j)(sO:∀j,L j→j<ops.toList.length→∀k∈((mU ops.toList)[j]?).getD [],L k)
  {C:Cx}{a:Act}{w:World}(hr:rL A ops.toList lt σ p q L C a w):
  pv A.rn P ops o a w fun u w'=>∃C',rL A ops.toList lt σ p q (fun j=>L j∨j=i) C' (a.put o.dst u) w':=by
 have xY:=Ox hK l5 hL Jz hd hs hi hq ho EK Cq sO hr
 obtain⟨g,hg,he⟩:=G0 hK l5 hs hi hq ho
 have Nh:i=p+(i-p):=by omega
 have hqi:q=i+(q-i):=by omega
 have aoT:q=i+1+(q-(i+1)):=by omega
 have ayB:(σ p).hp.length≤(σ i).hp.length:=by rw[Nh];exact eQ hK l5 hs (Nat.le_refl p) (i-p) (by omega)
 have aAZ:(σ (i+1)).hp.length≤(σ q).hp.length:=by
  have:=eQ hK l5 hs (i:=i+1) (by omega) (q-(i+1)) (by omega)
  rwa [←aoT] at this
 have ayC:(σ i).hp.length≤(σ (i+1)).hp.length:=eQ hK l5 hs hi 1 (by omega)
 have Nl:A.n0≤(σ q).hp.length:=by have:=hr.len;omega
 have vi:=sQ (ops:=ops) (a:=a) hg rfl (fun t ht=>xY t (by simp only[pC,List.mem_append];exact .inr ht))
 have EE:∀(j j':Nat) (b b':Oper) (t:Nat),ops.toList[j]? =some b→ops.toList[j']? =some b'→b.dst=some t→b'.dst=some t→j=j':=mf hd.dsts
 obtain⟨H,hH,hm⟩:=hr.mem
 have fin:∀(u:Value) (w':World) (C':Cx) (H':Hp) (v:AV),(σ (i+1)).tm=bJ (σ i).tm o.dst v→(∀d,o.dst=some d→d<x.nt)→Ext (σ q).hp.length C C'→U5 lt σ p q (fun j=>L j∨j=i) H'→Mem A.F C' H' w'→ar C' (σ q).hp.length v u→
   (∀j,p≤j→j<q→¬(L j∨j=i)→∀id,(σ j).hp.length≤id→id<(σ (j+1)).hp.length→C'.μ id=.none)→∃C',rL A ops.toList lt σ p q (fun j=>L j∨j=i) C' (a.put o.dst u) w':=by
  intro u w' C' H' v h2 h1 h4 Rb h6 h7 PN
  have aoV:∀t,(a.put o.dst u).tmps.getD t Go.undef=if o.dst=some t then u else a.tmps.getD t Go.undef:=fun t=>DW a o.dst u t (fun j e=>by rw[hr.size,←Jz];exact h1 j e)
  refine⟨C',by rw[DV];exact hr.size,by rw[put_defers];exact hr.defers.mono h4.K,⟨H',Rb,h6⟩,hr.ext.trans (h4.le Nl),hr.len,fun t j b Nq zo Gw Uo hj5=> ?_,fun t hn=> ?_,PN⟩
  ·have fB:j≠i:=fun e=>Gw (.inr e)
   rw[aoV,if_neg (fun e=>fB (EE j i b o t Uo ho hj5 e))]
   exact(hr.old t j b Nq zo (fun e=>Gw (.inl e)) Uo hj5).mono h4 (Nat.le_refl _)
  ·rw[aoV]
   by_cases e:o.dst=some t
   ·rw[if_pos e]
    have e1:=og hK l5 hs (t:=t) (i:=i+1) (by omega) (q-(i+1)) (by omega) (fun k c h8 h9 jU nz=>by
     have:=EE k i c o t jU ho nz e
     omega)
    rw[←aoT] at e1
    rw[e1,h2]
    simp only[ub,e,if_true]
    exact h7
   ·rw[if_neg e]
    refine(hr.new t (fun k c h8 h9 jU nz=> ?_)).mono h4 (Nat.le_refl _)
    rcases hn k c h8 h9 jU nz with wt|wt
    ·exact wt
    ·subst wt
     rw[ho] at jU;cases jU
     exact absurd nz e
 rcases he with⟨wid,xZ,he⟩|⟨xZ,he,VJ⟩
 ·
  obtain⟨WO,fW,Na,h1,v,ob,hσ,apu,Uh⟩:=nD (rn:=A.rn) hK he
  have Cr:∀id,id<(σ i).hp.length→H.at id=(σ i).hp.at id:=fun id hO=>
   hH.mem id i hi (by omega) hO fun j W k1 k2 k3 _=>by
    rcases Er hd xZ k3 with e|e|e
    ·subst e;exact⟨fun h=>absurd h EK,fun h=>by omega⟩
    ·have Gx:=hd.lt _ _ e
     exact⟨fun h=>absurd (sO j h (by have:=hs.top;omega) i e) EK,fun h=>by omega⟩
    ·exact⟨fun _=>hd.lt _ _ e,fun _=>Cq j e⟩
  have Mv:(σ i).hp.length≤H.length:=by rw[hH.len];omega
  have hσtm:(σ (i+1)).tm=bJ (σ i).tm o.dst v:=by rw[hσ]
  have hσhp:(σ (i+1)).hp=eY (σ i).hp wid ob:=by rw[hσ]
  have Rb:U5 lt σ p q (fun j=>L j∨j=i) (eY H wid ob):=by
   refine⟨by rw[cC,hH.len],fun id m h1m h2m ayJ EU=> ?_⟩
   have ayK:id<H.length:=by
    have:=eQ hK l5 hs h1m (q-m) (by omega)
    rw[show m+(q-m)=q from by omega] at this
    rw[hH.len];omega
   by_cases e:id∈wid
   ·have aph:=Na id e
    have him:i<m:=(EU i wid hi hq xZ e).1 (.inr rfl)
    have:=G1 hK l5 hs (i:=i+1) (id:=id) (by omega) (by rw[hσhp,cC];exact aph) (m-(i+1)) (by omega) (fun j W k1 k2 k3 k4=>by
     rcases (EU j W (by omega) (by omega) k3 k4).2 (by omega) with h8|h8
     ·rcases Er hd xZ k3 with e1|e1|e1
      ·omega
      ·exact EK (sO j h8 (by have:=hs.top;omega) i e1)
      ·have:=hd.lt _ _ e1;omega
     ·omega)
    rw[show i+1+(m-(i+1))=m from by omega] at this
    rw[this,hσhp]
    exact TB fW e ayK aph (by omega)
   ·rw[gM e]
    refine hH.mem id m h1m h2m ayJ fun j W k1 k2 k3 k4=> ?_
    have uw:j≠i:=fun e1=>by subst e1;rw[←Ll xZ k3] at k4;exact e k4
    have:=EU j W k1 k2 k3 k4
    exact⟨fun h=>this.1 (.inl h),fun h=>(this.2 h).elim _root_.id (fun e1=>absurd e1 uw)⟩
  rw[WO] at vi
  refine(apu A.F C H w a ops (hr.ext.L.trans hL) hm Mv Cr (fun t ht=>by rw[hH.len];exact xY t (by simp only[pC,List.mem_append];exact .inl ht)) vi).mono fun u w' hu=> ?_
  obtain⟨C',h3,h7,h4,h6⟩:=hu
  have Cs:Ext (σ q).hp.length C C':=by rw[←hH.len];exact h3
  have PN:∀j,p≤j→j<q→¬(L j∨j=i)→∀id,(σ j).hp.length≤id→id<(σ (j+1)).hp.length→C'.μ id=.none:=fun j Nq zo Gw id k1 k2=>by
   have fB:id ∉ wid:=by
    intro PQ
    obtain⟨b,hb⟩:∃b,ops.toList[j]? =some b:=⟨_,List.getElem?_eq_getElem (by have:=hs.top;omega)⟩
    obtain⟨gj,_,XA⟩:=G0 hK l5 hs Nq zo hb
    rcases XA with⟨wj,hlj,XA⟩|⟨_,_,RC⟩
    ·obtain⟨_,_,_,_,_,_,hσj,_⟩:=nD (rn:=A.rn) hK XA
     rw[hσj] at k2
     simp only[cC] at k2
     omega
    ·obtain⟨an,ao8,Q8⟩:=xS hd xZ
     rcases oF RC _ ao8 with h8|h8
     ·exact Gw (.inl (Cq j (Q8 j h8)))
     ·have:=h8 id PQ;omega
   rw[h7 id (by
    have:=eQ hK l5 hs (i:=j+1) (by omega) (q-(j+1)) (by omega)
    rw[show j+1+(q-(j+1))=q from by omega] at this
    rw[hH.len];omega) fB]
   exact hr.none j Nq zo (fun e=>Gw (.inl e)) id k1 k2
  rw[hH.len] at h6
  exact fin u w' C' _ v hσtm h1 Cs Rb h4 h6 PN
 ·
  obtain⟨h1,v,os,h2,h3⟩:=AR (rn:=A.rn) hK.T hK.glob hK.calls he
  have PS:(σ (i+1)).hp.length=(σ i).hp.length+os.length:=by rw[h2];simp
  have jM:∀id,(iz lt i (σ i).hp).at id≠ .dead→H.at id=(iz lt i (σ i).hp).at id:=fun id aH=>by
   obtain⟨e1,hO,e2⟩:=oD aH
   rw[e1]
   refine hH.mem id i hi (by omega) hO fun j W k1 k2 k3 k5=> ?_
   obtain⟨an,PQ,Q8⟩:=xS hd k3
   have QW:=Q8 i (e2 _ PQ k5)
   have Gx:=hd.lt _ _ QW
   exact⟨fun h=>absurd (sO j h (by have:=hs.top;omega) i QW) EK,fun h=>by omega⟩
  have apn:Bh C H (σ i).hp.length os:=fun k b hb=>by
   have hk:=(List.getElem?_eq_some_iff.1 hb).1
   refine⟨by rw[hH.len];omega,hr.none i hi hq EK _ (by omega) (by omega), ?_⟩
   have nY:(σ (i+1)).hp.at ((σ i).hp.length+k)=b:=by
    rw[h2]
    simp only[Hp.at]
    rw[List.getElem?_append_right (by omega),show(σ i).hp.length+k-(σ i).hp.length=k from by omega,hb]
    rfl
   have key:∀j (W:List Nat),cQ lt j=some W→(σ i).hp.length+k∈W→i∈((mU ops.toList)[j]?).getD []:=fun j W k3 k5=>by
    obtain⟨an,PQ,Q8⟩:=xS hd k3
    rcases oF VJ _ PQ with h8|h8
    ·exact Q8 i h8
    ·have:=h8 _ k5;omega
   rw[hH.mem _ (i+1) (by omega) (by omega) (by omega) fun j W k1 k2 k3 k5=>by
    have QW:=key j W k3 k5
    have Gx:=hd.lt _ _ QW
    exact⟨fun h=>absurd (sO j h (by have:=hs.top;omega) i QW) EK,fun h=>by omega⟩]
   exact nY
  refine(h3 A.F C H w a ops (hr.ext.L.trans hL) hm jM (fun t ht=>by rw[hH.len];exact xY t (by simp only[pC,List.mem_append];exact .inl ht)) vi apn).mono fun u w' hu=> ?_
  obtain⟨C',h4,h5,h6,h7⟩:=hu
  rw[hH.len] at h4 h7
  refine fin u w' C' H v (by rw[h2]) h1 h4 ⟨hH.len,fun id m k1 k2 k3 k4=>hH.mem id m k1 k2 k3 fun j W m1 m2 m3 m4=>by
   have uw:j≠i:=fun e1=>by subst e1;rw[xZ] at m3;cases m3
   have:=k4 j W m1 m2 m3 m4
   exact⟨fun h=>this.1 (.inl h),fun h=>(this.2 h).elim _root_.id (fun e1=>absurd e1 uw)⟩⟩ h6 h7 (fun j Nq zo Gw id ux LC=> ?_)
  have fB:j≠i:=fun e=>Gw (.inr e)
  have ayI:id<(σ q).hp.length:=by
   have:=eQ hK l5 hs (i:=j+1) (by omega) (q-(j+1)) (by omega)
   rw[show j+1+(q-(j+1))=q from by omega] at this
   omega
  rw[h5 id (by rw[hH.len];exact ayI) (fun e=> ?_)]
  ·exact hr.none j Nq zo (fun e=>Gw (.inl e)) id ux LC
  ·rcases Nat.lt_or_gt_of_ne fB with h8|h8
   ·have:=eQ hK l5 hs (i:=j+1) (by omega) (i-(j+1)) (by omega)
    rw[show j+1+(i-(j+1))=i from by omega] at this
    omega
   ·have:=eQ hK l5 hs (i:=i+1) (by omega) (j-(i+1)) (by omega)
    rw[show i+1+(j-(i+1))=j from by omega] at this
    omega
end
end Go.En
namespace Go.En
open Go.RowKit
section
variable {P:Program} {x:X} {A:At} {LT:ct} {ops:Array Oper} {sq:List Nat} {lt:List (Nat×List Nat×List Nat)} {σ:Nat→St} {ρ:Nat→Hp} {p q:Nat}
def Ls(aS:Array Bool)(j:Nat):Prop:=aS.getD j true=true
theorem xf{aS:Array Bool}(hn:aS.size=ops.size){i:Nat}(hd:uS ops.toList sq lt)(hi:i∈Region.ready .any ops aS):
  ∃o,ops.toList[i]? =some o∧¬Ls aS i∧∀e∈o.after.toList,du e=true→Ls aS e.on:=by
 simp only[Region.ready,List.mem_filter,List.mem_range,Bool.and_eq_true] at hi
 obtain⟨h1,h2,h3⟩:=hi
 have ho:ops[i]? =some ops[i]:=Array.getElem?_eq_getElem h1
 have lM:ops.toList[i]? =some ops[i]:=by rw[Array.getElem?_toList];exact ho
 refine⟨ops[i],lM,by simp[Ls] at h2 ⊢;exact h2,fun e he hb=> ?_⟩
 rw[ho] at h3
 simp only[Option.map_some,Option.getD_some,Array.all_eq_true'] at h3
 have h4:=h3 e (Array.mem_toList_iff.1 he)
 have hbn:Region.binds .any e=true:=by
  unfold du at hb
  unfold Region.binds
  split at hb<;>simp_all
 rw[hbn] at h4
 have bW:=hd.before i _ lM e he hb
 simp only[Bool.not_true,Bool.false_or] at h4
 unfold Ls
 have:e.on<aS.size:=by omega
 simpa [Array.getD_eq_getD_getElem?,this] using h4
theorem OO{aS:Array Bool}(hn:aS.size=ops.size){i:Nat}{o:Oper}(hd:uS ops.toList sq lt)(ho:ops.toList[i]? =some o)(EK:¬Ls aS i)(he:∀e∈o.after.toList,du e=true→Ls aS e.on):
  i∈Region.ready .any ops aS:=by
 have hi:i<ops.size:=by simpa using (List.getElem?_eq_some_iff.1 ho).1
 have lM:ops[i]? =some o:=by simpa using ho
 simp only[Region.ready,List.mem_filter,List.mem_range,Bool.and_eq_true]
 refine⟨hi,by simpa [Ls] using EK, ?_⟩
 rw[lM]
 simp only[Option.map_some,Option.getD_some,Array.all_eq_true']
 intro e Xz
 have apt:=Array.mem_toList_iff.2 Xz
 by_cases hb:du e=true
 ·have h1:=he e apt hb
  have bW:=hd.before i o ho e apt hb
  have:e.on<aS.size:=by omega
  unfold Ls at h1
  simp only[Array.getD_eq_getD_getElem?,Array.getElem?_eq_getElem this,Option.getD_some] at h1 ⊢
  simp[h1]
 ·have:Region.binds .any e=false:=by
   unfold du at hb
   unfold Region.binds
   split at hb<;>simp_all
  simp[this]
theorem Ix{aS:Array Bool}(hn:aS.size=ops.size)(hd:uS ops.toList sq lt)(hr:Region.ready .any ops aS=[]):∀j,j<ops.toList.length→Ls aS j:=by
 intro j
 induction j using Nat.strongRecOn with
 |ind j ih=>
  intro hj
  by_cases h:Ls aS j
  ·exact h
  ·have ho:ops.toList[j]? =some ops.toList[j]:=List.getElem?_eq_getElem hj
   have:=OO hn hd ho h (fun e he hb=>ih e.on (hd.before j _ ho e he hb) (by have:=hd.before j _ ho e he hb;omega))
   rw[hr] at this
   cases this
theorem uR{aS:Array Bool}(i j:Nat)(hi:i<aS.size):Ls (aS.setIfInBounds i true) j↔(Ls aS j∨j=i):=by
 unfold Ls
 simp only[Array.getD_eq_getD_getElem?,Array.getElem?_setIfInBounds]
 by_cases h:i=j
 ·subst h;simp[hi]
 ·simp[h,Ne.symm h]
variable (hK:Known LT P x)
variable (l5:∀(j:Nat) (o:Oper),ops.toList[j]? =some o→ze x ops.toList sq lt σ ρ j o)
include hK l5
structure Inv(x:X)(A:At)(ops:Array Oper)(sq:List Nat)(lt:List (Nat×List Nat×List Nat))(σ:Nat→St)(ρ:Nat→Hp)(p q:Nat)(aS:Array Bool)(C:Cx)(a:Act)(w:World):Prop where
 size:aS.size=ops.size
 shut:∀(j:Nat) (o:Oper),ops.toList[j]? =some o→Ls aS j→∀e∈o.after.toList,du e=true→Ls aS e.on
 seg:J1 x ops.toList sq σ ρ p q
 below:∀j,j<p→Ls aS j
 above:∀j,q≤j→j<ops.toList.length→¬Ls aS j
 rel:rL A ops.toList lt σ p q (Ls aS) C a w
theorem UI(hL:A.C0.L=LT)(Jz:x.nt=A.nt)(hd:uS ops.toList sq lt){Q:Exit→Act→World→Prop}(hq:∀a w,dx A (σ ops.toList.length) a w→Q .normal a w):
  ∀(fuel:Nat) (aS:Array Bool) (p q:Nat) (C:Cx) (a:Act) (w:World),aS.toList.count false≤fuel→Inv x A ops sq lt σ ρ p q aS C a w→wpAnyIn (FW A.rn) 0 P .any ops Q fuel aS a w:=by
 have fin:∀(aS:Array Bool) (p q:Nat) (C:Cx) (a:Act) (w:World),Inv x A ops sq lt σ ρ p q aS C a w→Region.ready .any ops aS=[]→Q .normal a w:=by
  intro aS p q C a w hI hr
  have l6:=Ix hI.size hd hr
  have hqe:q=ops.toList.length:=by
   rcases Nat.lt_or_ge q ops.toList.length with h|h
   ·exact absurd (l6 q h) (hI.above q (Nat.le_refl _) h)
   ·have:=hI.seg.top;omega
  have hle:=hI.seg.le
  have h1:=eQ hK l5 hI.seg (Nat.le_refl p) (q-p) (by omega)
  rw[show p+(q-p)=q from by omega] at h1
  have h2:=hI.rel.len
  rw[←hqe] at hq
  exact hq a w ⟨C,I' hle (fun j h3 h4=>l6 j (by omega)) (by omega) hI.rel⟩
 intro fuel
 induction fuel with
 |zero=>
  intro aS p q C a w hc hI
  have hr:Region.ready .any ops aS=[]:=by
   cases e:Region.ready .any ops aS with
   |nil=>rfl
   |cons i r=>
    exfalso
    obtain⟨o,h1,h2,_⟩:=xf hI.size hd (i:=i) (by rw[e];simp)
    have hi:i<aS.size:=by rw[hI.size];simpa using (List.getElem?_eq_some_iff.1 h1).1
    have:false∈aS.toList:=by
     have h3:aS[i]=false:=by
      unfold Ls at h2
      simpa [Array.getD_eq_getD_getElem?,hi] using h2
     rw[←h3]
     simp
    have:=List.count_pos_iff.2 this
    omega
  exact⟨hr,fin _ _ _ _ _ _ hI hr⟩
 |succ fuel ih=>
  intro aS p q C a w hc hI
  refine⟨fin _ _ _ _ _ _ hI,fun i hi=> ?_⟩
  obtain⟨o,ho,EK,hed⟩:=xf hI.size hd hi
  have zp:i<ops.toList.length:=(List.getElem?_eq_some_iff.1 ho).1
  have x6:i<aS.size:=by rw[hI.size];simpa using zp
  have lM:ops[i]? =some o:=by simpa using ho
  have Cq:=y_ hd hI.shut i o ho hed
  have sO:∀j,Ls aS j→j<ops.toList.length→∀k∈((mU ops.toList)[j]?).getD [],Ls aS k:=fun j hj Gv=>y_ hd hI.shut j _ (List.getElem?_eq_getElem Gv) (hI.shut j _ (List.getElem?_eq_getElem Gv) hj)
  have hp:p≤i:=by
   rcases Nat.lt_or_ge i p with h|h
   ·exact absurd (hI.below i h) EK
   ·exact h
  have PZ:(aS.setIfInBounds i true).toList.count false≤fuel:=by
   have h3:aS[i]=false:=by
    unfold Ls at EK
    simpa [Array.getD_eq_getD_getElem?,x6] using EK
   have ayH:i<aS.toList.length:=by simpa using x6
   have e1:(aS.toList[i]==false)=true:=by simp[h3]
   rw[Array.toList_setIfInBounds,List.count_set ayH,e1]
   have e2:(true==false)=false:=rfl
   rw[e2]
   simp only[if_true,Bool.false_eq_true,if_false]
   omega
  have vj:(aS.setIfInBounds i true).size=ops.size:=by simpa using hI.size
  have WJ:∀(j:Nat) (o:Oper),ops.toList[j]? =some o→Ls (aS.setIfInBounds i true) j→∀e∈o.after.toList,du e=true→Ls (aS.setIfInBounds i true) e.on:=by
   intro j b hj hl e he hb
   rw[uR i _ x6] at hl ⊢
   rcases hl with hl|hl
   ·exact .inl (hI.shut j b hj hl e he hb)
   ·subst hl
    rw[ho] at hj;cases hj
    exact .inl (hed e he hb)
  rcases Nat.lt_or_ge i q with hiq|hiq
  ·
   refine tD lM (Ow hK l5 hL Jz hd hI.seg hp hiq ho EK Cq sO hI.rel) (fun u w' hu=> ?_)
   obtain⟨C',hu⟩:=hu
   have e:(fun j=>Ls aS j∨j=i)=Ls (aS.setIfInBounds i true):=funext fun j=>propext (uR i j x6).symm
   rw[e] at hu
   exact ih _ p q C' _ w' PZ ⟨vj,WJ,hI.seg,fun j hj=>(uR i j x6).2 (.inl (hI.below j hj)),fun j h1 h2 h3=>by
    rcases (uR i j x6).1 h3 with h4|h4
    ·exact hI.above j h1 h2 h4
    ·omega,hu⟩
  ·
   have hqs:q∈sq:=by
    rcases hI.seg.stop with h|h
    ·omega
    ·exact h
   have Vp:=hd.seq q hqs
   simp only[Pt,List.all_eq_true,List.mem_range] at Vp
   have ayF:i=q:=by
    rcases Nat.lt_or_ge q i with h|h
    ·exfalso
     have:=Vp i zp
     rw[if_neg (by omega),if_pos h] at this
     exact hI.above q (Nat.le_refl _) (by omega) (Cq q (by simpa using this))
    ·omega
   subst ayF
   have WX:∀j,j<i→Ls aS j:=fun j hj=>by
    have:=Vp j (by omega)
    rw[if_pos hj] at this
    exact Cq j (by simpa using this)
   have hle:=hI.seg.le
   have h1:=eQ hK l5 hI.seg (Nat.le_refl p) (i-p) (by omega)
   rw[show p+(i-p)=i from by omega] at h1
   have aym:=I' hle (fun j h3 h4=>WX j h4) (by have:=hI.rel.len;omega) hI.rel
   obtain⟨g,hg,h2⟩:=l5 i o ho
   rcases h2 with⟨_,h2,h3⟩|⟨h2,_⟩
   ·refine tD lM (Jh hK hL Jz hg h2 aym) (fun u w' hu=> ?_)
    obtain⟨C',hu⟩:=hu
    obtain⟨q',EG⟩:=J1.exists (x:=x) (sq:=sq) ops.toList (ops.toList.length-(i+1)) (i+1) (by omega) h3
    have eV:∀j,i+1≤j→j<ops.toList.length→¬Ls (aS.setIfInBounds i true) j:=fun j h4 h5 h6=>by
     rcases (uR i j x6).1 h6 with h7|h7
     ·exact hI.above j (by omega) h5 h7
     ·omega
    obtain⟨C'',hu⟩:=Ab hK l5 hd EG (L:=Ls (aS.setIfInBounds i true)) (fun j h4 h5=>eV j h4 (by have:=EG.top;omega)) hu
    exact ih _ (i+1) q' C'' _ w' PZ ⟨vj,WJ,EG,fun j hj=>(uR i j x6).2 (by
     rcases Nat.lt_or_ge j i with h4|h4
     ·exact .inl (WX j h4)
     ·exact .inr (by omega)),fun j h4 h5=>eV j (by have:=EG.le;omega) h5,hu⟩
   ·exact absurd hqs h2
end
section
variable {P:Program} {x:X} {A:At} {LT:ct} {ops:Array Oper}
theorem Fh(hK:Known LT P x)(hL:A.C0.L=LT)(EM:P.follows .mixedOrders=true)(Jz:x.nt=A.nt){id:Nat}{draw:Bool}
  (aV:(!draw||CF ops.toList (x.T.seqs x.f id) (x.T.late x.f id))=true){s s':St}(he:JM x id ops.toList draw s=some s'){a:Act}{w:World}(hs:dx A s a w){Q:Exit→Act→World→Prop}
  (hq:∀a w,dx A s' a w→Q .normal a w):(Code.region id ops draw).wpIn (FW A.rn) 0 P Q a w:=by
 cases draw with
 |false=>
  refine wpIn_region ?_
  have ET:vz x ops.toList ops.toList s=some s':=by simpa [JM] using he
  have:=vy (Q:=Q) hK hL Jz ops.toList 0 s a w rfl ET hs hq
  simpa [List.range_eq_range'] using this
 |true=>
  have hd:=Fm (by simpa using aV)
  have ET:jf x ops.toList (x.T.seqs x.f id) (x.T.late x.f id) ops.toList 0 s.hp s=some s':=by simpa [JM] using he
  obtain⟨σ,ρ,h1,h2,h3,h4⟩:=sV ops.toList 0 s.hp s rfl ET
  have l5:∀(j:Nat) (o:Oper),ops.toList[j]? =some o→ze x ops.toList (x.T.seqs x.f id) (x.T.late x.f id) σ ρ j o:=fun j o ho=>h4 j o (Nat.zero_le _) ho
  refine wpIn_region_any EM ?_
  rw[Nat.zero_add] at h3
  obtain⟨C,hr⟩:=hs
  have sM:Rel A C (σ 0) a w.drew:=by
   rw[h1]
   exact⟨hr.size,hr.defers,hr.tm,hr.mem.grow (Below.refl _ w).drew,hr.ext,hr.len⟩
  obtain⟨q,EG⟩:=J1.exists (x:=x) (sq:=x.T.seqs x.f id) (σ:=σ) (ρ:=ρ) ops.toList ops.toList.length 0 (by omega) (by rw[h2,h1])
  have Ch:∀j,j<ops.toList.length→¬Ls (Array.replicate ops.size false) j:=fun j hj=>by
   have:j<ops.size:=by simpa using hj
   simp[Ls,Array.getD_eq_getD_getElem?,this]
  obtain⟨C',hu⟩:=Ab hK l5 hd EG (L:=Ls (Array.replicate ops.size false)) (fun j _ h5=>Ch j (by have:=EG.top;omega)) sM
  refine UI hK l5 hL Jz hd (by rw[h3];exact hq) ops.size _ 0 q C' a w.drew (by simp) ⟨by simp,fun j o ho hl=>absurd hl (Ch j (List.getElem?_eq_some_iff.1 ho).1),EG,fun j hj=>by omega,fun j _ h5=>Ch j h5,hu⟩
end
end Go.En
namespace Go.En
open Go.RowKit
section
variable {C:Cx} {n m:Nat}
theorem lh{α:Type}{l:List α}{f:α→Bool}{d:α}(h:l.all f=true){k:Nat}(hk:k<l.length):f (l.getD k d)=true:=by
 simp only[List.all_eq_true] at h
 rw[List.getD_eq_getElem?_getD,List.getElem?_eq_getElem hk]
 exact h _ (List.getElem_mem _)
theorem B3{x:AV}{v:Value}(hr:ar C n x v)(hb:cA m x=true):ar C m x v:=by
 unfold cA at hb
 split at hb
 ·cases hr with
  |agg cs vs h1 h2=>exact .agg _ _ h1 (fun k hk=>B4 (h2 k hk) (lh hb hk))
 ·cases hr with
  |fn f cs vs h1 h2=>exact .fn _ _ _ h1 (fun k hk=>B4 (h2 k hk) (lh hb hk))
 ·exact B4 hr hb
theorem lower{x:AV}{v:Value}(hr:ar C n x v)(hb:below m x=true):ar C m x v:=by
 unfold below at hb
 split at hb
 ·cases hr with
  |tup vs xs h1 h2=>exact .tup _ _ h1 (fun k hk=>B3 (h2 k hk) (lh hb hk))
 ·cases hr with
  |gdT v x h=>exact .gdT _ _ (B4 h hb)
  |gdF v=>exact .gdF _
 ·exact B3 hr hb
theorem Ph{w:World}{c:Cn}{o:Obj}(Q7:∀r b,c=.loop r b→b≤m)(hr:kn C n w c o):kn C m w c (eS m o):=by
 unfold eS
 split
 ·rename_i cs
  split
  ·rename_i hb
   cases c with
   |box B=>
    obtain⟨c,T,h1,h2,h3,h4⟩:=hr
    exact⟨c,T,h1,h2,h3,fun k hk=>B3 (h4 k hk) (lh hb hk)⟩
   |none=>exact trivial
   |arr _ _ _ _ _=>exact hr.elim
   |nil _=>exact hr.elim
   |map _=>exact hr.elim
   |loop _ _=>exact hr.elim
  ·exact trivial
 ·cases o with
  |box cs=>rename_i h;exact absurd rfl (h cs)
  |dead=>exact trivial
  |arr g sz sh es=>exact FQ rfl (fun _ _ e=>e) hr
  |map es=>
   cases c with
   |map r=>exact hr
   |none=>exact trivial
   |box _=>exact hr.elim
   |arr _ _ _ _ _=>exact hr.elim
   |nil _=>exact hr.elim
   |loop _ _=>exact hr.elim
  |loop st f h_ tm=>
   cases c with
   |loop r b=>exact⟨Q7 r b rfl,hr.2⟩
   |none=>exact trivial
   |box _=>exact hr.elim
   |arr _ _ _ _ _=>exact hr.elim
   |nil _=>exact hr.elim
   |map _=>exact hr.elim
theorem Pg{h:Hp}{id:Nat}(aH:id<m):Hp.at ((h.take m).map (eS m)) id=eS m (h.at id):=by
 simp only[Hp.at,List.getElem?_map,List.getElem?_take,aH,if_true]
 cases h[id]? <;>rfl
theorem Mem.low{F:e_}{h:Hp}{w:World}(hm:Mem F C h w)(hle:m≤h.length):Mem F C ((h.take m).map (eS m)) w:=by
 have hl:((h.take m).map (eS m)).length=m:=by simp;omega
 refine⟨fun id aH=> ?_,hm.prot,hm.src,fun id B aH e a v hv eV=> ?_,fun i j B hi hj=> ?_,fun id B aH e=> ?_,hm.kept,fun B o e id aH=> ?_,fun id r b aH=> ?_,hm.fr,hm.gl⟩
 ·rw[hl] at aH ⊢
  rw[Pg aH]
  exact Ph (fun r b e=>by have:=hm.bnd id r b (by omega) e;omega) (hm.objs id (by omega))
 ·rw[hl] at aH
  obtain⟨g,o,cap,sz,es,h1,h2,h3⟩:=hm.sep id B (by omega) e a v hv eV
  exact⟨g,o,cap,sz,es,h1,by rw[Pg aH,h2];rfl,h3⟩
 ·rw[hl] at hi hj
  exact hm.inj i j B (by omega) (by omega)
 ·rw[hl] at aH
  exact hm.lt id B (by omega) e
 ·rw[hl] at aH
  exact hm.ksep B o e id (by omega)
 ·rw[hl] at aH
  exact hm.bnd id r b (by omega)
end
section
variable {P:Program} {T:cX} {F:e_} {w:World} {C:Cx} {h:Hp} {n m:Nat}
def yj(C:Cx)(h:Hp)(m:Nat)(a:Addr):Prop:=∃id,m≤id∧id<h.length∧(C.μ id).blk=some a.block
open Classical in
noncomputable def gone(C:Cx)(h:Hp)(m:Nat)(w:World)(a:Addr):Option Value:=
 match C.M a with
 |some v=>some v
 |none=>if yj C h m a then w.cell? a else none
theorem yh{a:Addr}{v:Value}(e:C.M a=some v):gone C h m w a=some v:=by simp[gone,e]
theorem yi{a:Addr}{v:Value}(e:gone C h m w a=some v):C.M a=some v∨(yj C h m a∧w.cell? a=some v):=by
 unfold gone at e
 split at e
 ·rename_i u hu;cases e;exact .inl hu
 ·split at e
  ·exact .inr ⟨by assumption,e⟩
  ·cases e
theorem AK(hm:Mem F C h w){a:Addr}(hg:yj C h m a){v:Value}(hc:w.cell? a=some v):gone C h m w a=some v:=by
 unfold gone
 split
 ·rename_i u hu
  have:=hm.prot _ _ hu
  rw[hc] at this;exact this.symm
 ·rw[if_pos hg];exact hc
theorem oR(n:Nat):Ext n C (C.withM (gone C h m w)):=⟨fun _ _ e=>yh e,fun _ _ e=>e,fun _ _ e=>e,rfl,fun _ _=>.inl rfl⟩
theorem Mem.gone(hm:Mem F C h w)(hle:m≤h.length):Mem F (C.withM (gone C h m w)) ((h.take m).map (eS m)) w:=by
 have hl:((h.take m).map (eS m)).length=m:=by simp;omega
 have nX:=hm.low hle
 refine⟨fun id aH=>(nX.objs id aH).mono (oR _) (Nat.le_refl _) (fun _ _=>rfl),fun a v e=> ?_,fun a v e=> ?_,fun id B aH e a v hv eV=> ?_,nX.inj,nX.lt,nX.kept,nX.ksep,nX.bnd,nX.fr,hm.gl.mono (fun _ _ e=>yh e) rfl⟩
 ·rcases yi e with e|⟨_,e⟩
  ·exact hm.prot a v e
  ·exact e
 ·rcases yi e with e|⟨⟨id,h1,h2,h3⟩,_⟩
  ·exact hm.src a v e
  ·rcases (hm.lt id _ h2 h3).2 with h4|h4
   ·exact .inr (.inl h4)
   ·exact .inl h4
 ·rcases yi hv with hv|⟨⟨Cc,h1,h2,h3⟩,_⟩
  ·exact nX.sep id B aH e a v hv eV
  ·exfalso
   rw[hl] at aH
   have:=hm.inj Cc id B h2 (by omega) (by rw[h3,eV]) e
   omega
theorem sE{f:AV→Option AV}:∀{l l':List AV},j_ f l=some l'→l'.length=l.length∧∀k,k<l.length→f (l.getD k .undef)=some (l'.getD k .undef)
 |[],l',h=>by simp[j_] at h;subst h;simp
 |x::l,l',h=>by
  simp only[j_] at h
  obtain⟨y,h1,h⟩:=au h
  obtain⟨r,h2,h⟩:=au h
  cases h
  obtain⟨h3,h4⟩:=sE h2
  refine⟨by simp[h3],fun k hk=> ?_⟩
  cases k with
  |zero=>simpa using h1
  |succ k=>simpa using h4 k (by simpa using hk)
theorem rp(hm:Mem F C h w):∀(k:Nat) (v v':AV) (u:Value),freeze h m k v=some v'→ar C h.length v u→ar (C.withM (gone C h m w)) h.length v' u:=by
 intro k
 induction k with
 |zero=>intro v v' u hf;cases v<;>simp[freeze] at hf
 |succ k ih=>
  intro v v' u hf hr
  have same:ar (C.withM (gone C h m w)) h.length v u:=hr.mono (oR _) (Nat.le_refl _)
  have many:∀{cs l:List AV} {vs:Array Value},j_ (freeze h m k) cs=some l→vs.size=cs.length→(∀j,j<cs.length→ar C h.length (cs.getD j .undef) (vs.getD j Go.undef))→
    vs.size=l.length∧∀j,j<l.length→ar (C.withM (gone C h m w)) h.length (l.getD j .undef) (vs.getD j Go.undef):=by
   intro cs l vs h1 h2 h3
   obtain⟨h4,h5⟩:=sE h1
   exact⟨by rw[h4];exact h2,fun j hj=>ih _ _ _ (h5 j (by omega)) (h3 j (by omega))⟩
  cases v with
  |p x=>simp only[freeze] at hf;cases hf;exact same
  |arr id g off len=>
   simp only[freeze] at hf
   split at hf
   ·cases hf;exact same
   ·rename_i aH
    simp only[Option.map_eq_some_iff] at hf
    obtain⟨l,hp,rfl⟩:=hf
    have h1:=tM (rd:=h) (ids:=[id]) hm (fun _ _=>rfl) hr (fun Cc g' abI ax1 e=>by cases e;simp)
    have e:lC h (.arr id g off len)=.p (.sl l):=by simp only[lC,hp]
    rw[e] at h1
    refine .p _ _ ((cn h1).mono (fun a v ha=> ?_))
    rcases pB ha with ha|⟨⟨Cc,g',B,o,cap,sz,sh,es,h2,h3,h4,h5,h6,h7⟩,h8⟩
    ·exact yh ha
    ·have:Cc=id:=by simpa using h2
     subst this
     exact AK hm ⟨Cc,by omega,h3,by rw[h4,h6];rfl⟩ h8
  |ref id off=>
   simp only[freeze] at hf
   split at hf
   ·cases hf;exact same
   ·rename_i aH
    split at hf
    ·rename_i cs ho
     obtain⟨l,h1,hf⟩:=au hf
     simp only[Option.map_eq_some_iff] at hf
     obtain⟨ps,h2,rfl⟩:=hf
     cases hr with
     |ref _ _ B h3 h4=>
      have h5:=hm.objs id h3
      rw[ho,h4] at h5
      obtain⟨c,et,h6,h7,h8,h9⟩:=h5
      obtain⟨jU,nz⟩:=many h1 h7 h9
      obtain⟨wt,Uy⟩:=mm h2
      obtain⟨RQ,_⟩:=sE h1
      have:=bu.ptr (M:=gone C h m w) ps off B 0 (fun k=>c.getD k Go.undef) (fun k hk=> ?_) (fun k hk=> ?_)
      ·rw[Nat.zero_add] at this;exact .p _ _ this
      ·have bT:k<cs.length:=by omega
       refine⟨AK hm ⟨id,by omega,h3,by rw[h4];rfl⟩ ?_, ?_⟩
       ·rw[Nat.zero_add,cH h6];exact getD_some (by omega)
       ·exact(we (h9 k bT) (lh h8 bT)).1
      ·have D9:=nz k (by omega)
       rw[Uy k (by omega)] at D9
       exact cn D9
    ·cases hf
  |fn f cs=>
   simp only[freeze] at hf
   obtain⟨l,h1,hf⟩:=au hf
   cases hr with
   |fn _ _ vs h3 h4=>
    obtain⟨jU,nz⟩:=many h1 h3 h4
    split at hf
    ·rename_i ps h2
     cases hf
     exact .p _ _ (H9 h2 (.fn f l vs jU (fun k hk=>nz k (by omega))))
    ·cases hf
     exact .fn _ _ _ jU nz
  |agg cs=>
   simp only[freeze] at hf
   obtain⟨l,h1,hf⟩:=au hf
   cases hf
   cases hr with
   |agg _ vs h3 h4=>
    obtain⟨jU,nz⟩:=many h1 h3 h4
    exact .agg _ _ jU nz
  |map id=>
   simp only[freeze] at hf
   split at hf
   ·cases hf;exact same
   ·cases hf
  |_=>simp[freeze] at hf
theorem dx.norm{A:At}{s:St}{a:Act}{w:World}{ks:List Nat}(hs:dx A s a w)(hm:A.n0≤m)(hle:m≤s.hp.length):dx A (En.norm ks m s) a w:=by
 obtain⟨C,hr⟩:=hs
 have hl:(En.norm ks m s).hp.length=m:=by simp[En.norm];omega
 refine⟨C.withM (gone C s.hp m w),hr.size,Marks.mono (C:=C) (C':=C.withM (gone C s.hp m w)) (fun _ _ e=>e) hr.defers,fun i=> ?_,hr.mem.gone hle,hr.ext.trans (oR _),by rw[hl];exact hm⟩
 rw[hl]
 have e:look (En.norm ks m s).tm i=if i∈ks then iA s.hp m (look s.tm i) else .undef:=oB (fun k=>iA s.hp m (look s.tm k)) ks i
 rw[e]
 split
 ·unfold iA
  split
  ·rename_i hb;exact lower ((hr.tm i).mono (oR _) (Nat.le_refl _)) hb
  ·cases hf:freeze s.hp m 5 (look s.tm i) with
   |none=>exact .undef _
   |some v=>
    simp only[uB]
    split
    ·rename_i hb;exact lower (rp hr.mem 5 _ _ _ hf (hr.tm i)) hb
    ·exact .undef _
 ·exact .undef _
end
open Classical in
noncomputable def least(p:Nat→Prop):Nat:=if h:∃n,p n∧∀m,m<n→¬p m then Classical.choose h else 0
theorem oC{p:Nat→Prop}{n:Nat}(h:p n):∃n,p n∧∀m,m<n→¬p m:=by
 induction n using Nat.strongRecOn with
 |ind n ih=>
  by_cases h1:∃m,m<n∧p m
  ·obtain⟨m,h2,h3⟩:=h1;exact ih m h2 h3
  ·exact⟨n,h,fun m hm hp=>h1 ⟨m,hm,hp⟩⟩
theorem HM{p:Nat→Prop}{n:Nat}(h:p n):p (least p):=by
 unfold least
 rw[dif_pos (oC h)]
 exact(Classical.choose_spec (oC h)).1
theorem least_le{p:Nat→Prop}{n:Nat}(h:p n):least p≤n:=by
 unfold least
 rw[dif_pos (oC h)]
 rcases Nat.lt_or_ge n (Classical.choose (oC h)) with h1|h1
 ·exact absurd h ((Classical.choose_spec (oC h)).2 n h1)
 ·exact h1
def Ig:Ex→Exit
 | .nor=>.normal
 | .exit id=>.exit id
 | .ret=>.ret
section rules
variable {P:Program} {Q:Exit→Act→World→Prop} {a:Act} {w:World} {F:Fence} {n:Nat}
theorem J8{c:Code}(I:Nat→Act→World→Prop)(h0:∀a w,¬I 0 a w)(round:∀j a w,I (j+1) a w→c.wpIn F n P (Exit.then (I j) Q) a w){j:Nat}(hI:I j a w):(Code.loop c).wpIn F n P Q a w:=by
 refine wpIn_loop (I:=fun a w=>∃j,I j a w) (μ:=fun a w=>least (fun j=>I j a w)) ⟨j,hI⟩ (fun a w h=> ?_)
 obtain⟨j,hj⟩:=h
 have hl:=HM (p:=fun j=>I j a w) hj
 cases hm:least (fun j=>I j a w) with
 |zero=>rw[hm] at hl;exact absurd hl (h0 a w)
 |succ m=>
  rw[hm] at hl
  refine wpIn_mono (round m a w hl) (fun e a' w' he=> ?_)
  cases e with
  |normal=>exact⟨⟨m,he⟩,by have:=least_le (p:=fun j=>I j a' w') he;show least (fun j=>I j a' w')<m+1;omega⟩
  |exit _=>exact he
  |goto _=>exact he
  |ret=>exact he
  |panic _=>exact he
  |outgrown=>exact he
end rules
end Go.En
namespace Go.En
open Go.RowKit
section
variable {P:Program} {F:e_} {w w':World} {C C':Cx} {h:Hp} {n:Nat}
def Cx.keep(C:Cx)(D:Nat)(o:Go.Obj):Cx:={C with K:=fun B=>if B=D then some o else C.K B}
theorem Mem.keepNew(hm:Mem F C h w)(o:Go.Obj):Mem F (C.keep w.heap.size o) h (w.alloc o)∧Ext h.length C (C.keep w.heap.size o):=by
 have hg:=hm.grow (dT w o)
 have bW:∀B o',C.K B=some o'→B<w.heap.size:=fun B o' e=>(Array.getElem?_eq_some_iff.1 (hm.kept B o' (.inl e))).1
 have hx:Ext h.length C (C.keep w.heap.size o):=⟨fun _ _ e=>e,fun B o' e=>by
  have:=bW B o' e
  show(if B=w.heap.size then _ else _)=_
  rw[if_neg (by omega)];exact e,fun _ _ e=>e,rfl,fun _ _=>.inl rfl⟩
 refine⟨⟨fun id aH=>(hg.objs id aH).mono hx (Nat.le_refl _) (fun _ _=>rfl),hg.prot,hg.src,hg.sep,hg.inj,hg.lt,fun B o' e=> ?_,fun B o' e id aH e'=> ?_,hg.bnd,hg.fr,hg.gl.mono hx.M hx.L⟩,hx⟩
 ·rcases e with e|e
  case inr=>exact hg.kept B o' (.inr e)
  have e:(if B=w.heap.size then some o else C.K B)=some o':=e
  split at e
  ·rename_i hB;cases e;subst hB;exact heap_alloc w _
  ·exact hg.kept B o' (.inl e)
 ·rcases e with e|e
  case inr=>exact hg.ksep B o' (.inr e) id aH e'
  have e:(if B=w.heap.size then some o else C.K B)=some o':=e
  split at e
  ·rename_i hB
   subst hB
   have:=(hm.lt id _ aH e').1
   omega
  ·exact hg.ksep B o' (.inl e) id aH e'
theorem Mem.record(hm:Mem F C h w){h_ f:Nat}{tm:Tm}{a:Act}{ps:Array Tmp}{GB body:Code}{fn D:Nat}(hc:C.L.code f h_=some (ps.toList,GB,body))(hn:C.L.nt f=some a.tmps.size)
  (ht:∀i,ar C h.length (look tm i) (a.tmps.getD i Go.undef)):
  ∃C',Ext h.length C C'∧C'.K=C.K∧C'.μ h.length=.loop w.heap.size h.length∧
   Mem F C' (h++[.loop .ready f h_ tm]) (w.alloc (.loop {state:=.ready,pending:=none,fn,tmps:=a.tmps,params:=ps,assign:=GB,body,defers:=D})):=by
 obtain⟨h1,h2⟩:=hm.room [.loop .ready f h_ tm]
 have hf:pt (C.cut h.length) (h++[.loop .ready f h_ tm]) h.length (.loop .ready f h_ tm):=by
  have:=yk (C:=C) (h:=h) (os:=[.loop .ready f h_ tm]) 0 _ rfl
  simpa using this
 refine⟨(C.cut h.length).set h.length (.loop w.heap.size h.length),h2.trans (hf.ext _ _),rfl,cV _ _ _, ?_⟩
 refine h1.place (dT w _) hf _ (fun B e=>by cases e;simp) ?_ (fun r b e=>by cases e;exact Nat.le_refl _)
 refine⟨by simp,_,heap_alloc w _,rfl,hc,hn,fun i=> ?_⟩
 exact(ht i).mono (h2.trans (hf.ext _ _)) (Nat.le_refl _)
theorem zx{fn:FuncId}{tmps:Array Value}{ps:Array Tmp}{GB body:Code}:
  (Instr.enterLoop fn tmps ps GB body none).run P w=.ok (w.heap.size+1,[{target:=.collected w.heap.size,args:= #[]}])
    ((w.alloc (.deferred (some []))).alloc (.loop {state:=.ready,pending:=none,fn,tmps,params:=ps,assign:=GB,body,defers:=w.heap.size})):=by
 simp[Instr.enterLoop]
def LS.jump:LS→Option Code
 | .done e=>exitCode e
 |_=>none
theorem LS.rep_end{st:LS}{s:LoopState}{j:Option Code}(h:st.rep (s,j))(cm:st≠ .busy):(s==.busy)=false∧j=st.jump:=by
 cases st with
 |ready=>simp only[LS.rep,Prod.mk.injEq] at h;rw[h.1,h.2];exact⟨rfl,rfl⟩
 |busy=>exact absurd rfl cm
 |done e=>simp only[LS.rep,Prod.mk.injEq] at h;rw[h.1,h.2];exact⟨rfl,rfl⟩
theorem run_getLoop{l:Nat}{L:Loop}(h:w.heap[l]? =some (.loop L)):(Instr.getLoop l).run P w=.ok L w:=by
 have h1:(getObj l).run P w=.ok (.loop L) w:=by simp[getObj,Sem.run,h]
 simp[Instr.getLoop,h1]
theorem oi{l:Nat}{o:Go.Obj}{L:Loop}(h:w.heap[l]? =some (.loop L)):(setObj l o).run P w=.ok () {w with heap:=w.heap.setIfInBounds l o}:=by
 simp[setObj,Sem.run,h]
theorem run_endLoop(hm:Mem F C h w){Mk l b:Nat}(aH:Mk<h.length)(hμ:C.μ Mk=.loop l b){st:LS}{f h_:Nat}{tm:Tm}(ho:h.at Mk=.loop st f h_ tm)(cm:st≠ .busy):
  ∃w',(Instr.endLoop l).run P w=.ok st.jump w'∧Mem F C (h.set Mk .dead) w':=by
 have h1:=hm.objs Mk aH
 rw[ho,hμ] at h1
 obtain⟨_,L,h2,h3,_,_,_⟩:=h1
 obtain⟨q1,q2⟩:=MapKept.heap_set (w:=w) (o':=Go.Obj.loop {L with state:=.exhausted}) h2
 have bW:=(Array.getElem?_eq_some_iff.1 h2).1
 have Ch:∀a v,C.M a=some v→a.block≠l:=fun a v hv e=>by
  have hc:=hm.prot a v hv
  unfold World.cell? at hc
  rw[e,h2] at hc
  cases hc
 refine⟨{w with heap:=w.heap.setIfInBounds l (.loop {L with state:=.exhausted})}, ?_, ?_⟩
 ·have hs:=LS.rep_end h3 cm
  rw[←hs.2]
  have hb:¬L.state=.busy:=fun e=>by
   have:=hs.1
   rw[e] at this
   cases this
  simp[Instr.endLoop,run_getLoop h2,oi h2,hb]
 ·refine hm.upd (C':=C) aH js (fun _ _=>rfl) (Ext.refl _ _) rfl rfl rfl (by simp) (fun B _ fB=>q2 B (fun e=>fB (by rw[hμ,e];rfl)))
   (fun a v hv=>(World.cell?_of_block (q2 _ (Ch a v hv))).trans (hm.prot a v hv)) (fun B e=>.inl e) (by rw[hμ];exact trivial) (fun B e a v hv eV=> ?_)
  exact absurd (by rw[hμ] at e;cases e;exact eV) (Ch a v hv)
end
end Go.En
namespace Go.En
open Go.RowKit
section
variable {P:Program} {x:X} {L:ct}
structure RW(L:ct)(P:Program)(x:X)(A:At):Prop extends Known L P x where
 L0:A.C0.L=L
 mix:P.follows .mixedOrders=true
 nt:x.nt=A.nt
 rn:x.rnd=false→A.rn=none
 code:L.code=x.T.loops
 num:L.nt x.f=some x.nt
theorem Hq{s:St}{o:Obj}{h:Hp}{e:Ex}{s':St}(hr:qJ s o h=some (e,s')):s'=⟨s.tm,h⟩∧∃st f h_ tm,o=.loop st f h_ tm∧st≠ .busy∧st.jump=exitCode e:=by
 unfold qJ at hr
 split at hr
 ·cases hr;exact⟨rfl,.ready,_,_,_,rfl,by simp,rfl⟩
 ·cases hr;exact⟨rfl,.done _,_,_,_,rfl,by simp,rfl⟩
 ·cases hr
theorem DR{A:At}(hH:RW L P x A){g:Operand}{ps:Array Tmp}{GB body:Code}{id:Nat}(apa:x.T.loops x.f id=some (ps.toList,GB,body)){s:St}{e:Ex}{s':St}
  (he:ia x (.rangeFunc g ps GB body) id s=some (e,s')){a:Act}{w:World}(hs:dx A s a w){Q:Exit→Act→World→Prop}(hq:∀a w,dx A s' a w→Q (Ig e) a w):
  (Code.rangeFunc g ps GB body).wpIn (FW A.rn) 0 P Q a w:=by
 obtain⟨C,hr⟩:=hs
 simp only[ia] at he
 split at he
 case isFalse=>cases he
 rename_i hc
 obtain⟨ayl,hk⟩:=hc
 have hrn:=hH.rn ayl
 rw[hrn]
 obtain⟨⟨fi,cs⟩,rm,he⟩:=au he
 obtain⟨r,yc,he⟩:=au he
 simp only at yc he
 obtain⟨rfl,st,f',xP,lq,Uh,cm,apf⟩:=Hq he
 obtain⟨abY,hv,ayW,Ns⟩:=nH rm (j9 (a:=a) hr.tm hk)
 obtain⟨m1,x1⟩:=hr.mem.keepNew (.deferred (some []))
 generalize oN:x.T.muts fi=mu at yc
 obtain⟨b1,b2⟩:=yP (rd:=s.hp) m1 (fun _ _=>rfl) ayW (fun k hk=>(Ns k hk).mono x1 (Nat.le_refl _)) mu
 have m2:=m1.share (bO mu cs)
 have x2:Ext s.hp.length C ((C.keep w.heap.size (.deferred (some []))).withM (shown (C.keep w.heap.size (.deferred (some []))) s.hp (bO mu cs) (w.alloc (.deferred (some []))))):=x1.trans (fQ _ _)
 generalize hC2:(C.keep w.heap.size (.deferred (some []))).withM (shown (C.keep w.heap.size (.deferred (some []))) s.hp (bO mu cs) (w.alloc (.deferred (some []))))=C2 at m2 x2 b2
 have XG:C2.K w.heap.size=some (.deferred (some [])):=by rw[←hC2];show(if w.heap.size=w.heap.size then _ else _)=_;rw[if_pos rfl]
 have jT:=aY (h:=s.hp) (bO mu cs)
 intro b k ctx Vr hb EH
 refine wpIn_rangeFunc (F:=FW none) (fun fn _=> ?_) b k ctx Vr hb EH
 obtain⟨C3,x3,hK3,hμ3,m3⟩:=m2.record (h_:=id) (f:=x.f) (tm:=s.tm) (a:=a) (ps:=ps) (GB:=GB) (body:=body) (fn:=fn) (D:=w.heap.size)
  (by rw[x2.L,hr.ext.L,hH.L0,hH.code];exact apa) (by rw[x2.L,hr.ext.L,hH.L0,hr.size,←hH.nt];exact hH.num) (fun i=>by rw[jT];exact(hr.tm i).mono x2 (Nat.le_refl _))
 rw[jT] at x3 hμ3
 have ax8:(w.alloc (.deferred (some []))).heap.size=w.heap.size+1:=by simp
 rw[ax8] at hμ3
 have hL3:C3.L=L:=by rw[x3.L,x2.L,hr.ext.L];exact hH.L0
 have aV:=hH.calls _ _ _ _ yc
 have PI:∀j,j<(dS mu s.hp (.yl s.hp.length::cs)).length→ar C3 (share s.hp (bO mu cs)++[Obj.loop .ready x.f id s.tm]).length ((dS mu s.hp (.yl s.hp.length::cs)).getD j .undef) (((#[Value.func (.yield (w.heap.size+1)) #[] #[]]:Array Value)++abY).getD j Go.undef):=by
  have e:dS mu s.hp (.yl s.hp.length::cs)=.yl s.hp.length::dS mu s.hp cs:=by cases mu<;>rfl
  rw[e]
  intro j hj
  cases j with
  |zero=>
   have:((#[Value.func (.yield (w.heap.size+1)) #[] #[]]:Array Value)++abY).getD 0 Go.undef=.func (.yield (w.heap.size+1)) #[] #[]:=by
    rw[Array.getD_eq_getD_getElem?,Array.getElem?_append_left (by simp)]
    rfl
   rw[this]
   exact .yl _ _ _ (by simp[jT]) hμ3
  |succ j=>
   have h1:=b2 j (by simpa using hj)
   have:((#[Value.func (.yield (w.heap.size+1)) #[] #[]]:Array Value)++abY).getD (j+1) Go.undef=abY.getD j Go.undef:=by
    simp only[Array.getD_eq_getD_getElem?]
    rw[Array.getElem?_append_right (by simp)]
    simp
   rw[this]
   exact h1.mono x3 (by simp[jT])
 have vj:((#[Value.func (.yield (w.heap.size+1)) #[] #[]]:Array Value)++abY).size=(dS mu s.hp (.yl s.hp.length::cs)).length:=by
  have e:dS mu s.hp (.yl s.hp.length::cs)=.yl s.hp.length::dS mu s.hp cs:=by cases mu<;>rfl
  rw[e]
  simp
  omega
 have PY:=zx (P:=P) (w:=w) (fn:=fn) (tmps:=a.tmps) (ps:=ps) (GB:=GB) (body:=body)
 generalize WE:((w.alloc (.deferred (some []))).alloc (.loop {state:=.ready,pending:=none,fn,tmps:=a.tmps,params:=ps,assign:=GB,body,defers:=w.heap.size}))=w1 at PY m3
 refine⟨w.heap.size+1,_,w1,{target:=.fn (.func fi) abY,args:= #[.func (.yield (w.heap.size+1)) #[] #[]]},w1,fi, #[.func (.yield (w.heap.size+1)) #[] #[]]++abY,w1,PY, ?_,fun f' _=>Bi none f', ?_,(fun h=>by cases h), ?_⟩
 ·have e:resolve a.eval (rangeCall g (w.heap.size+1)) 0=Deferred.ofValue (a.eval g) #[.func (.yield (w.heap.size+1)) #[] #[]]:=by
   simp only[resolve,rangeCall,List.map_toArray,List.map_cons,List.map_nil]
   rfl
  rw[e,hv]
  simp[Deferred.ofValue]
 ·obtain⟨fn',h1,h2,h3⟩:=aV.fn
  have p_:¬(fn'.body=none):=by
   intro e
   rw[e] at h2
   cases h2
  have Cs:¬(fn'.name= "runtime.NumGoroutine"):=by simpa using h3
  simp[invoke,callFunc,h1,p_,Cs]
 ·refine rH.2 ((aV.calls _ C3 _ hL3 m3.before vj PI).mono fun en w3 Q0=> ?_)
  cases en with
  |panicked _=>exact Q0.elim
  |outgrown=>exact Q0.elim
  |returned u=>
   obtain⟨C4,x4,hK4,m4,_,_⟩:=Q0
   have m4':=m3.after m4
   have acF:s.hp.length<r.2.length:=by
    have:=aV.len
    simp[jT] at this
    omega
   have hμ4:C4.μ s.hp.length=.loop (w.heap.size+1) s.hp.length:=by
    rcases x4.μ s.hp.length (by simp[jT]) with e1|⟨g1,g2,e1,_⟩|e1
    ·rw[e1];exact hμ3
    ·rw[hμ3] at e1;cases e1
    ·rw[hμ3] at e1;cases e1
   obtain⟨w4,h5,m5⟩:=run_endLoop (P:=P) m4' acF hμ4 Uh cm
   rw[apf] at h5
   have Zh:Ext s.hp.length C C4:=x2.trans (x3.trans (x4.le (by simp[jT])))
   have HV:dx A ⟨s.tm,r.2.set s.hp.length .dead⟩ {a with defers:=[{target:=.collected w.heap.size,args:= #[]}]++a.defers} w4:=by
    refine⟨C4,hr.size,⟨⟨w.heap.size,rfl, ?_,hr.mem.fr.size,fun d' Uq e=> ?_⟩,hr.defers.mono Zh.K⟩,fun i=> ?_,m5,hr.ext.trans (Zh.le hr.len), ?_⟩
    ·exact x4.K _ _ (x3.K _ _ XG)
    ·
     have:∀(ds:List Deferred),Marks A.F.w0 C ds→∀d∈ds,∃D,d={target:=.collected D,args:= #[]}∧D<w.heap.size:=by
      intro ds
      induction ds with
      |nil=>intro _ d hd;cases hd
      |cons d0 ds ih=>
       rintro⟨⟨D,h6,h7,_⟩,h8⟩ d hd
       cases hd with
       |head=>exact⟨D,h6,(Array.getElem?_eq_some_iff.1 (hr.mem.kept D _ (.inl h7))).1⟩
       |tail _ hd=>exact ih h8 d hd
     obtain⟨D,h6,h7⟩:=this _ hr.defers d' Uq
     rw[e] at h6
     simp only[Deferred.mk.injEq,Target.collected.injEq,and_true] at h6
     omega
    ·show ar C4 (r.2.set s.hp.length .dead).length (look s.tm i) (a.tmps.getD i Go.undef)
     exact(hr.tm i).mono Zh (by simp;omega)
    ·show A.n0≤(r.2.set s.hp.length .dead).length
     have:=hr.len
     simp;omega
   refine⟨_,w4,h5, ?_⟩
   cases e with
   |nor=>exact hq _ _ HV
   |exit i=>exact wpIn_exit (hq _ _ HV)
   |ret=>exact wpIn_ret (hq _ _ HV)
end
end Go.En
namespace Go.En
open Go.RowKit
section
variable {F:Fence} {n:Nat} {P:Program} {Q:Exit→Act→World→Prop} {a:Act} {w:World} {b:Frame} {k:List Item} {cs:List Frame}
theorem fP{c:Code}:step P (lone (b.atR a (.code (.scope c)::k)) cs w)=.next (lone (b.atR a (.code c:: .inScope c::k)) cs w):=
 step_lone_go (by simp[stepG,stepG.exec,Frame.atR])
theorem wP{c:Code}:step P (lone (b.atR a (.inScope c::k)) cs w)=.next (lone (b.atR a k) cs w):=
 step_lone_go (by simp[stepG,stepG.exec,Frame.atR])
theorem Dq{c:Code}(h:c.wpIn F n P (Exit.noGoto Q) a w):(Code.scope c).wpIn F n P Q a w:=by
 intro b k cs Vr hb hr
 have h0:(lone (b.atR a (.code (.scope c)::k)) cs w).fenced P F:=fenced_calm hb hr rfl
 obtain⟨e,a₁,w₁,hq,LG⟩:=h b (.inScope c::k) cs Vr hb hr
 cases e with
 |normal=>exact⟨.normal,a₁,w₁,hq,.head h0 fP (StepsIn.trans LG (.one (fenced_calm hb hr rfl) wP))⟩
 |exit Cc=>
  have hx:exitTo Cc (.inScope c::k)=exitTo Cc k:=by simp[exitTo]
  exact⟨.exit Cc,a₁,w₁,hq,fun k' hk=>.head h0 fP (LG.1 k' (by rw[hx];exact hk)),
   fun sM hk=>let ⟨k₁,h1,h2⟩:=LG.2 sM (by rw[hx];exact hk);⟨k₁,h1,.head h0 fP h2⟩⟩
 |goto l=>exact hq.elim
 |ret=>exact⟨_,a₁,w₁,hq,.of_steps (.one h0 fP) LG⟩
 |panic ch=>exact⟨_,a₁,w₁,hq,.of_steps (.one h0 fP) LG⟩
 |outgrown=>exact⟨_,a₁,w₁,hq,.of_steps (.one h0 fP) LG⟩
end
theorem O3{M:Addr→Option Value}{v:Value}(h:bu M .nils v):v=.slice none 0 0:=by cases h;rfl
theorem HR{v:AV}(h:nw v=true):v=.p .nils:=by
 unfold nw at h
 split at h
 ·rfl
 ·cases h
theorem P5{A:At}{t off sz:Nat}{s:St}{a:Act}{w:World}(hs:dx A s a w):dx A (qo t off sz s) a w:=by
 unfold qo
 split
 ·rename_i i o hl
  split
  ·rename_i cs yd
   split
   ·rename_i hc
    obtain⟨Lw,hi⟩:=hc
    obtain⟨C,hr⟩:=hs
    obtain⟨m1,x1⟩:=hr.mem.room [.arr 0 sz false []]
    have hf:pt (C.cut s.hp.length) (s.hp++[.arr 0 sz false []]) s.hp.length (.arr 0 sz false []):=⟨by simp,iD (by omega),by simp[Hp.at]⟩
    obtain⟨m2,rep⟩:=m1.nilRow hf
    have x2:Ext s.hp.length (C.cut s.hp.length) ((C.cut s.hp.length).set s.hp.length (.nil 0)):=hf.ext (.nil 0) _
    generalize (C.cut s.hp.length).set s.hp.length (.nil 0)=C2 at m2 rep x2
    have x3:=x1.trans x2
    have PW:i<(s.hp++[Obj.arr 0 sz false []]).length:=by simp;omega
    have P3:Hp.at (s.hp++[Obj.arr 0 sz false []]) i=.box cs:=by
     rw[←yd];simp[Hp.at,List.getElem?_append_left hi]
    have ho:=m2.objs i PW
    rw[P3] at ho
    have lM:kn C2 (s.hp++[Obj.arr 0 sz false []]).length w (C2.μ i) (.box (cs.set (o+off) (.arr s.hp.length 0 0 0))):=by
     cases hc:C2.μ i with
     |none=>exact trivial
     |box B=>
      rw[hc] at ho
      obtain⟨c,T,h1,h2,h3,h4⟩:=ho
      refine⟨c,T,h1,by simpa using h2, ?_,fun k hk=> ?_⟩
      ·simp only[List.all_eq_true] at h3 ⊢
       intro y hy
       rcases List.mem_or_eq_of_mem_set hy with h5|h5
       ·exact h3 y h5
       ·rw[h5];rfl
      ·have bT:k<cs.length:=by simpa using hk
       have h5:=h4 k bT
       by_cases e:o+off=k
       ·subst e
        have e1:=HR Lw
        rw[e1] at h5
        have e2:c.getD (o+off) Go.undef=.slice none 0 0:=O3 (cn h5)
        rw[e2]
        have e3:(cs.set (o+off) (AV.arr s.hp.length 0 0 0)).getD (o+off) .undef=.arr s.hp.length 0 0 0:=by
         simp[List.getD_eq_getElem?_getD,bT]
        rw[e3];exact rep
       ·have e3:(cs.set (o+off) (AV.arr s.hp.length 0 0 0)).getD k .undef=cs.getD k .undef:=by
         simp[List.getD_eq_getElem?_getD,List.getElem?_set,e]
        rw[e3];exact h5
     |_=>rw[hc] at ho;exact ho.elim
    have m3:=m2.upd (C':=C2) (w':=w) PW js (fun _ _=>rfl) (Ext.refl _ _) rfl rfl rfl (Nat.le_refl _) (fun _ _ _=>rfl) m2.prot (fun B e=>.inl e) lM (fun B e a v hv eV=>by
     obtain⟨g,o',cap,i4,es,_,k2,_⟩:=m2.sep i B PW e a v hv eV
     rw[P3] at k2;cases k2)
    have hlen:((s.hp++[Obj.arr 0 sz false []]).set i (.box (cs.set (o+off) (.arr s.hp.length 0 0 0)))).length=s.hp.length+1:=by simp
    exact⟨C2,hr.size,hr.defers.mono x3.K,fun j=>(hr.tm j).mono x3 (by rw[hlen];omega),m3,hr.ext.trans (x3.le hr.len),by rw[hlen];have:=hr.len;omega⟩
   ·exact hs
  ·exact hs
 ·exact hs
theorem EX{A:At}:∀(l:List (Nat×Nat×Nat)) {s:St} {a:Act} {w:World},dx A s a w→dx A (sR l s) a w
 |[],_,_,_,h=>h
 |(_,_,_)::r,_,_,_,h=>EX r (P5 h)
section
variable {P:Program} {x:X} {L:ct}
theorem uG:∀(c:Code) (id:Nat) (s:St) (e:Ex) (s':St) (A:At) (Q:Exit→Act→World→Prop) (a:Act) (w:World),
  RW L P x A→cO x.T x.f c=true→cS x.T x.f c id→ia x c id s=some (e,s')→dx A s a w→(∀a w,dx A s' a w→Q (Ig e) a w)→c.wpIn (FW A.rn) 0 P Q a w:=by
 intro c
 induction c with
 |skip=>
  intro id s e s' A Q a w hH hb hl he hs hq
  simp only[ia] at he
  cases he
  exact wpIn_skip (hq a w hs)
 |label l=>
  intro id s e s' A Q a w hH hb hl he hs hq
  simp only[ia] at he
  cases he
  exact wpIn_label (hq a w hs)
 |region Mk ops draw=>
  intro id s e s' A Q a w hH hb hl he hs hq
  simp only[ia] at he
  obtain⟨s1,h1,he⟩:=au he
  cases he
  exact Fh hH.toKnown hH.L0 hH.mix hH.nt hb h1 hs hq
 |seq c1 c2 Rm Rl=>
  intro id s e s' A Q a w hH hb hl he hs hq
  simp only[cO,Bool.and_eq_true] at hb
  simp only[ia] at he
  refine wpIn_seq ?_
  cases h1:ia x c1 0 s with
  |none=>rw[h1] at he;cases he
  |some r=>
   obtain⟨e1,s1⟩:=r
   rw[h1] at he
   refine Rm 0 s e1 s1 A _ a w hH hb.1 hl.1 h1 hs (fun a w h2=> ?_)
   cases e1 with
   |nor=>exact Rl 0 s1 e s' A Q a w hH hb.2 hl.2 he h2 hq
   |exit i=>cases he;exact hq a w h2
   |ret=>cases he;exact hq a w h2
 |cond c c1 c2 Rm Rl=>
  intro id s e s' A Q a w hH hb hl he hs hq
  simp only[cO,Bool.and_eq_true] at hb
  simp only[ia] at he
  split at he
  ·rename_i t hc
   have hv:a.eval c=.bool t:=by
    obtain⟨C,hr⟩:=hs
    have:=wz hr.tm c
    rw[hc] at this
    exact fN this
   refine wpIn_cond hv ?_
   cases t with
   |true=>exact Rm 0 s e s' A Q a w hH hb.1 hl.1 (by simpa using he) hs hq
   |false=>exact Rl 0 s e s' A Q a w hH hb.2 hl.2 (by simpa using he) hs hq
  ·cases he
 |block bid c ih=>
  intro id s e s' A Q a w hH hb hl he hs hq
  simp only[ia] at he
  refine wpIn_block ?_
  cases h1:ia x c bid s with
  |none=>rw[h1] at he;cases he
  |some r=>
   obtain⟨e1,s1⟩:=r
   rw[h1] at he
   refine ih bid s e1 s1 A _ a w hH hb hl h1 hs (fun a w h2=> ?_)
   cases e1 with
   |nor=>cases he;exact hq a w h2
   |ret=>cases he;exact hq a w h2
   |exit i=>
    simp only[pa] at he
    simp only[Ig,Exit.inBlock]
    split at he
    ·rename_i hi;cases he;rw[if_pos hi];exact hq a w h2
    ·rename_i hi;cases he;rw[if_neg hi];exact hq a w h2
 |loop c ih=>
  intro id s e s' A Q a w hH hb hl he hs hq
  simp only[ia] at he
  have hs:=EX (x.T.grow x.f id) hs
  generalize sR (x.T.grow x.f id) s=s at hs he
  obtain⟨C,hr⟩:=hs
  let A':At:=⟨A.F,C,s.hp.length,A.nt,A.rn⟩
  have Rb:RW L P x A':={hH with L0:=hr.ext.L.trans hH.L0,nt:=hH.nt,rn:=hH.rn}
  have back:∀{s1:St} {a:Act} {w:World},dx A' s1 a w→dx A s1 a w:=fun ⟨C1,h1⟩=>
   ⟨C1,h1.size,h1.defers,h1.tm,h1.mem,hr.ext.trans (h1.ext.le hr.len),Nat.le_trans hr.len h1.len⟩
  refine J8 (I:=fun n a w=>∃s1,iter (ia x c 0) (x.T.keep x.f id) s.hp.length n s1=some (e,s')∧dx A' s1 a w) ?_ ?_ (j:=x.fuel) ⟨s,he,C,hr.size,hr.defers,hr.tm,hr.mem,Ext.refl _ _,Nat.le_refl _⟩
  ·rintro a w ⟨s1,h1,_⟩
   cases h1
  ·rintro n a w ⟨s1,h1,h2⟩
   have hlen:s.hp.length≤s1.hp.length:=by
    obtain⟨C1,h3⟩:=h2
    exact h3.len
   have h3:=h2.norm (ks:=x.T.keep x.f id) (m:=s.hp.length) (Nat.le_refl _) hlen
   simp only[iter] at h1
   cases h4:ia x c 0 (norm (x.T.keep x.f id) s.hp.length s1) with
   |none=>rw[h4] at h1;cases h1
   |some r=>
    obtain⟨e1,s2⟩:=r
    rw[h4] at h1
    refine ih 0 _ e1 s2 A' _ a w Rb hb hl h4 h3 (fun a w h5=> ?_)
    have iV:s.hp.length≤s2.hp.length:=by
     obtain⟨C1,h3⟩:=h5
     exact h3.len
    cases e1 with
    |nor=>exact⟨s2,h1,h5⟩
    |exit i=>cases h1;exact hq a w (back (h5.norm (Nat.le_refl _) iV))
    |ret=>cases h1;exact hq a w (back (h5.norm (Nat.le_refl _) iV))
 |rangeFunc g ps GB body Rm Rl=>
  intro id s e s' A Q a w hH hb hl he hs hq
  exact DR hH hl.1 he hs hq
 |scope c ih=>
  intro id s e s' A Q a w hH hb hl he hs hq
  simp only[ia] at he
  refine Dq (ih 0 s e s' A _ a w hH hb hl he hs (fun a w h=> ?_))
  have:=hq a w h
  cases e<;>exact this
 |exit i=>
  intro id s e s' A Q a w hH hb hl he hs hq
  simp only[ia] at he
  cases he
  exact wpIn_exit (hq a w hs)
 |ret=>
  intro id s e s' A Q a w hH hb hl he hs hq
  simp only[ia] at he
  cases he
  exact wpIn_ret (hq a w hs)
 |_=>
  intro id s e s' A Q a w hH hb hl he hs hq
  simp only[ia] at he
  cases he
end
end Go.En
namespace Go.En
open Go.RowKit
section
variable {P:Program} {F:e_} {w w':World} {C C':Cx} {h:Hp} {n:Nat}
def Cx.reK(C:Cx)(K:Nat→Option Go.Obj):Cx:={C with K:=K}
theorem ar.reK{K:Nat→Option Go.Obj}{x:AV}{v:Value}(r:ar C n x v):ar (C.reK K) n x v:=by
 induction r with
 |p x v h=>exact .p _ _ h
 |agg cs vs h1 _ ih=>exact .agg cs vs h1 ih
 |ref id off B h1 h2=>exact .ref _ _ _ h1 h2
 |arr id g off len B o cap sz a h1 h2 h3 h4=>exact .arr _ _ _ _ _ _ _ _ _ h1 h2 h3 h4
 |arrN id g h1 h2=>exact .arrN _ _ h1 h2
 |arrS id g off len g' a cap h1 h2 h3=>exact .arrS _ _ _ _ _ _ _ h1 h2 h3
 |elt id g i off B o cap sz h1 h2=>exact .elt _ _ _ _ _ _ _ _ h1 h2
 |eltS id g i off g' B o h1 h2 h3=>exact .eltS _ _ _ _ _ _ _ h1 h2 h3
 |fn f cs vs h1 _ ih=>exact .fn f cs vs h1 ih
 |map id r h1 h2=>exact .map _ _ h1 h2
 |it id r m c h1 h2 h3=>exact .it _ _ _ _ h1 h2 h3
 |yl id r b h1 h2=>exact .yl _ _ _ h1 h2
 |glob g=>exact .glob g
 |tup vs xs h1 _ ih=>exact .tup vs xs h1 ih
 |gdT v x _ ih=>exact .gdT v x ih
 |gdF v=>exact .gdF v
 |undef v=>exact .undef v
theorem kn.reK{K:Nat→Option Go.Obj}{c:Cn}{o:Obj}(r:kn C n w c o):kn (C.reK K) n w c o:=by
 cases o with
 |dead=>cases c<;>exact trivial
 |box cs=>
  cases c with
  |box B=>
   obtain⟨c,T,h1,h2,h3,h4⟩:=r
   exact⟨c,T,h1,h2,h3,fun k hk=>(h4 k hk).reK⟩
  |none=>exact trivial
  |_=>exact r.elim
 |arr g sz sh es=>cases c<;>first|exact r|exact r.elim
 |map es=>cases c<;>first|exact r|exact r.elim
 |loop st f h_ tm=>
  cases c with
  |loop l b=>
   obtain⟨h0,L,h1,h2,h4,h5,h6⟩:=r
   exact⟨h0,L,h1,h2,h4,h5,fun i=>(h6 i).reK⟩
  |none=>exact trivial
  |_=>exact r.elim
theorem Mem.reK(hm:Mem F C h w){K:Nat→Option Go.Obj}(hk:∀B o,K B=some o→C.K B=some o):Mem F (C.reK K) h w:=
 ⟨fun id aH=>(hm.objs id aH).reK,hm.prot,hm.src,hm.sep,hm.inj,hm.lt,fun B o e=>hm.kept B o (e.imp (hk B o) id),fun B o e id aH=>hm.ksep B o (e.imp (hk B o) _root_.id) id aH,hm.bnd,hm.fr,hm.gl⟩
theorem Mem.turn(hm:Mem F C h w){id l b:Nat}(aH:id<h.length)(hμ:C.μ id=.loop l b){st SY:LS}{f h_:Nat}{tm:Tm}(ho:h.at id=.loop st f h_ tm):
  ∃Lp:Loop,w.heap[l]? =some (.loop Lp)∧st.rep (Lp.state,Lp.pending)∧∀s' j',SY.rep (s',j')→
   Mem F C (h.set id (.loop SY f h_ tm)) {w with heap:=w.heap.setIfInBounds l (.loop {Lp with state:=s',pending:=j'})}:=by
 have h1:=hm.objs id aH
 rw[ho,hμ] at h1
 obtain⟨h0,L,h2,h3,h4,h5,h6⟩:=h1
 refine⟨L,h2,h3,fun s' j' Uc=> ?_⟩
 obtain⟨q1,q2⟩:=MapKept.heap_set (w:=w) (o':=Go.Obj.loop {L with state:=s',pending:=j'}) h2
 have Ch:∀a v,C.M a=some v→a.block≠l:=fun a v hv e=>by
  have hc:=hm.prot a v hv
  unfold World.cell? at hc
  rw[e,h2] at hc
  cases hc
 refine hm.upd (C':=C) aH js (fun _ _=>rfl) (Ext.refl _ _) rfl rfl rfl (by simp) (fun B _ fB=>q2 B (fun e=>fB (by rw[hμ,e];rfl)))
  (fun a v hv=>(World.cell?_of_block (q2 _ (Ch a v hv))).trans (hm.prot a v hv)) (fun B e=>.inl e) (by rw[hμ];exact⟨h0,_,q1,Uc,h4,h5,h6⟩) (fun B e a v hv eV=> ?_)
 exact absurd (by rw[hμ] at e;cases e;exact eV) (Ch a v hv)
theorem vc:∀(ps:List Nat) (as:List AV) (tm:Tm) (tmps:Array Value) (vs:List Value),as.length=ps.length→vs.length=ps.length→(∀p∈ps,p<tmps.size)→
  (∀i,ar C n (look tm i) (tmps.getD i Go.undef))→(∀k,k<as.length→ar C n (as.getD k .undef) (vs.getD k Go.undef))→
  ((ps.zip vs).foldl (fun t (p:Nat×Value)=>t.setIfInBounds p.1 p.2) tmps).size=tmps.size∧∀i,ar C n (look (ns tm ps as) i) (((ps.zip vs).foldl (fun t (p:Nat×Value)=>t.setIfInBounds p.1 p.2) tmps).getD i Go.undef)
 |[],as,tm,tmps,vs,h1,h2,h3,h4,h5=>by
  have:as=[]:=List.eq_nil_of_length_eq_zero (by simpa using h1)
  subst this
  exact⟨by simp,fun i=>by simpa [ns] using h4 i⟩
 |p::ps,[],tm,tmps,vs,h1,h2,h3,h4,h5=>by simp at h1
 |p::ps,a::as,tm,tmps,[],h1,h2,h3,h4,h5=>by simp at h2
 |p::ps,a::as,tm,tmps,v::vs,h1,h2,h3,h4,h5=>by
  have hp:=h3 p (by simp)
  obtain⟨g1,g2⟩:=vc ps as (put tm p a) (tmps.setIfInBounds p v) vs (by simpa using h1) (by simpa using h2) (fun q hq=>by simpa using h3 q (by simp[hq])) (fun i=>by
   rw[Ej]
   simp only[Array.getD_eq_getD_getElem?,Array.getElem?_setIfInBounds]
   by_cases e:p=i
   ·subst e
    have:=h5 0 (by simp)
    simpa [hp] using this
   ·simp only[e,if_false]
    simpa [Array.getD_eq_getD_getElem?] using h4 i) (fun k hk=>by simpa using h5 (k+1) (by simpa using hk))
  refine⟨by simpa using g1,fun i=> ?_⟩
  simpa [ns] using g2 i
theorem FO{r:Option (Ex×St)}{k:Ex→St→Option (Bool×Hp)}{q:Bool×Hp}(h:QK r k=some q):∃e s,r=some (e,s)∧k e s=some q:=by
 cases r with
 |none=>cases h
 |some p=>exact⟨p.1,p.2,rfl,h⟩
end
end Go.En
namespace Go.En
open Go.RowKit
section
variable {P:Program} {L:ct} {T:cX} {fs:Nat→Option Func} {call:ei} {yield:nN}
theorem run_beginRound{w:World}{l:Nat}{Lp:Loop}(h:w.heap[l]? =some (.loop Lp))(hs:Lp.state=.ready):
  (Instr.beginRound l).run P w=.ok () {w with heap:=w.heap.setIfInBounds l (.loop {Lp with state:=.busy})}:=by
 simp[Instr.beginRound,run_getLoop h,oi h,hs]
theorem run_endRound{w:World}{l:Nat}{Lp:Loop}{j:Option Code}(h:w.heap[l]? =some (.loop Lp)):
  (Instr.endRound l j).run P w=.ok (.bool j.isNone) {w with heap:=w.heap.setIfInBounds l (.loop {Lp with state:=if j.isNone=true then .ready else .done,pending:=j})}:=by
 simp[Instr.endRound,run_getLoop h,oi h]
theorem Dk{fuel:Nat}(hT:T.Ok P)(x7:∀g cs,T.glob g=some cs→L.glob g=some cs)(gR:∀f as h r,call f as h=some r→dq L T.fresh P f as h r)(sL:∀id as h r,yield id as h=some r→pR L P id as h r)(EM:P.follows .mixedOrders=true)
  (yb:L.code=T.loops)(eM:∀f fn,fs f=some fn→L.nt f=some fn.ntmps)(P0:∀f h_ l,T.loops f h_=some l→cO T f l.2.1=true∧cO T f l.2.2=true∧cS T f l.2.1 0∧cS T f l.2.2 0)
  {id:Nat}{as:List AV}{h:Hp}{r:Bool×Hp}(he:tC T fs call yield fuel id as h=some r):pR L P id as h r:=by
 unfold tC at he
 split at he
 case h_2=>cases he
 rename_i f h_ tm ho
 obtain⟨lp,hlp,he⟩:=au he
 obtain⟨fn,WQ,he⟩:=au he
 unfold round at he
 split at he
 case isFalse=>cases he
 rename_i hc
 obtain⟨hlen,A6⟩:=hc
 obtain⟨e1,s1,h1,he⟩:=FO he
 cases e1 with
 |exit _=>cases he
 |ret=>cases he
 |nor=>
 obtain⟨h2,Ut,he⟩:=au he
 obtain⟨e2,s2,h3,he⟩:=FO he
 split at he
 case isFalse=>cases he
 rename_i hle
 have mI:=he
 obtain⟨nY,p9,PS,Ly⟩:=P0 f h_ lp hlp
 have apy:∃f' xP lq,s1.hp.at id=.loop .ready f' xP lq∧h2=s1.hp.set id (.loop .busy f' xP lq):=by
  unfold kK at Ut
  split at Ut
  ·rename_i f' xP lq e;cases Ut;exact⟨f',xP,lq,e,rfl⟩
  ·cases Ut
 obtain⟨f1,ax0,tm1,ayZ,rfl⟩:=apy
 have apr:∃f' xP lq,s2.hp.at id=.loop .busy f' xP lq∧((e2=.nor∧r=(true,s2.hp.set id (.loop .ready f' xP lq)))∨(e2≠ .nor∧r=(false,s2.hp.set id (.loop (.done e2) f' xP lq)))):=by
  unfold gC at mI
  split at mI
  ·rename_i f' xP lq e
   refine⟨f',xP,lq,e, ?_⟩
   cases e2 with
   |nor=>cases mI;exact .inl ⟨rfl,rfl⟩
   |exit i=>cases mI;exact .inr ⟨by simp,rfl⟩
   |ret=>cases mI;exact .inr ⟨by simp,rfl⟩
  ·cases mI
 obtain⟨f2,aod,tm2,P3,hr⟩:=apr
 have aAO:r.2.length=s2.hp.length:=by rcases hr with⟨_,rfl⟩|⟨_,rfl⟩<;>simp
 refine⟨by omega,fun w C vs l b hL hm aH hμ hs PI=> ?_⟩
 ·have lM:=hm.objs id aH
  rw[ho,hμ] at lM
  obtain⟨h0,Lp,q1,q2,q3,q4,q5⟩:=lM
  rw[hL,yb,hlp] at q3
  cases q3
  rw[hL,eM f fn WQ] at q4
  have gK:Lp.tmps.size=fn.ntmps:=by simpa using q4.symm
  simp only[LS.rep,Prod.mk.injEq] at q2
  let A:At:=⟨⟨w,j8 C h,C.M⟩,C,h.length,fn.ntmps,some l⟩
  let x:X:=⟨T,call,yield,f,fn.ntmps,fuel,true⟩
  have hH:RW L P x A:={T:=hT,glob:=x7,calls:=gR,yields:=sL,L0:=hL,mix:=EM,nt:=rfl,rn:=(fun e=>by cases e),code:=yb,num:=eM f fn WQ}
  have Jy:∀p∈Lp.params.toList,p<Lp.tmps.size:=fun p hp=>by
   simp only[List.all_eq_true,decide_eq_true_eq] at A6
   have:=A6 p hp
   rw[gK];exact this
  obtain⟨g1,g2⟩:=vc (C:=C) (n:=h.length) Lp.params.toList as tm Lp.tmps vs.toList hlen (by simpa using hs.trans hlen) Jy (fun i=>(q5 i).mono (Ext.refl _ _) h0) (fun k hk=>by
   have:=PI k hk
   simpa [List.getD_eq_getElem?_getD,Array.getD_eq_getD_getElem?] using this)
  have Gs:((Lp.params.zip vs).foldl (fun tmps (p:Nat×Value)=>tmps.setIfInBounds p.1 p.2) Lp.tmps)=(Lp.params.toList.zip vs.toList).foldl (fun t (p:Nat×Value)=>t.setIfInBounds p.1 p.2) Lp.tmps:=by
   rw[←Array.foldl_toList,Array.toList_zip]
  refine⟨Lp.fn,(Lp.params.toList.zip vs.toList).foldl (fun t (p:Nat×Value)=>t.setIfInBounds p.1 p.2) Lp.tmps,Lp.assign,Lp.body, ?_,roundIn_of_wpIn (F:=Fence.wide) trivial ?_⟩
  ·have:vs.size=Lp.params.size:=by simpa using hs.trans hlen
   simp only[Instr.yield,Sem.run_bind,run_getLoop q1,Result.andThen_ok]
   rw[if_neg (by simpa using this)]
   rw[←Gs]
   rfl
  ·have HU:dx A ⟨ns tm Lp.params.toList as,h⟩ {tmps:=(Lp.params.toList.zip vs.toList).foldl (fun t (p:Nat×Value)=>t.setIfInBounds p.1 p.2) Lp.tmps,defers:=[]} w:=
    ⟨C,g1.trans gK,trivial,g2,hm,Ext.refl _ _,Nat.le_refl _⟩
   refine uG Lp.assign 0 _ .nor s1 A _ _ w hH nY PS h1 HU (fun a1 w1 AE=> ?_)
   obtain⟨C1,r1⟩:=AE
   have ux:id<s1.hp.length:=Nat.lt_of_lt_of_le aH r1.len
   have mu:∀{Ck:Cx},Ext h.length C Ck→Ck.μ id=.loop l b:=fun {Ck} hx=>by
    rcases hx.μ id aH with e1|⟨_,_,e1,_⟩|e1
    ·rw[e1];exact hμ
    ·rw[hμ] at e1;cases e1
    ·rw[hμ] at e1;cases e1
   obtain⟨XX,t1,t2,t3⟩:=r1.mem.turn (SY:=.busy) ux (mu r1.ext) ayZ
   simp only[LS.rep,Prod.mk.injEq] at t2
   refine⟨_,run_beginRound t1 t2.1, ?_⟩
   have m2:=t3 .busy none rfl
   have Ub:dx A ⟨s1.tm,s1.hp.set id (.loop .busy f1 ax0 tm1)⟩ a1 {w1 with heap:=w1.heap.setIfInBounds l (.loop {XX with state:=.busy,pending:=none})}:=
    ⟨C1,r1.size,r1.defers,fun i=>by show ar C1 (s1.hp.set id _).length _ _;rw[List.length_set];exact r1.tm i,m2,r1.ext,by show h.length≤(s1.hp.set id _).length;rw[List.length_set];exact r1.len⟩
   have eL:({XX with state:=.busy}:Loop)={XX with state:=.busy,pending:=none}:=by rw[←t2.2]
   rw[eL]
   refine uG Lp.body 0 _ e2 s2 A _ _ _ hH p9 Ly h3 Ub (fun a2 w2 Jw=> ?_)
   obtain⟨C2,r2⟩:=Jw
   have LC:id<s2.hp.length:=Nat.lt_of_lt_of_le aH r2.len
   have fin:∀(SY:LS) (s':LoopState) (j':Option Code) (Y_:Loop),Mem A.F C2 (s2.hp.set id (.loop SY f2 aod tm2)) {w2 with heap:=w2.heap.setIfInBounds l (.loop {Y_ with state:=s',pending:=j'})}→r.2=s2.hp.set id (.loop SY f2 aod tm2)→
     ∃C',Ext h.length C C'∧C'.K=C.K∧Mem ⟨w,j8 C h,C.M⟩ C' r.2 {w2 with heap:=w2.heap.setIfInBounds l (.loop {Y_ with state:=s',pending:=j'})}:=fun SY s' j' Y_ m e=>by
    rw[e]
    exact⟨C2.reK C.K,⟨r2.ext.M,fun _ _ h=>h,r2.ext.I,r2.ext.L,r2.ext.μ⟩,rfl,m.reK (fun B o h=>r2.ext.K B o h)⟩
   rcases hr with⟨rfl,hr⟩|⟨fB,hr⟩
   ·obtain⟨Y_,u1,u2,u3⟩:=r2.mem.turn (SY:=.ready) LC (mu r2.ext) P3
    refine⟨_,_,run_endRound u1, ?_⟩
    exact⟨by rw[hr];rfl,fin .ready _ _ Y_ (u3 _ _ rfl) (by rw[hr])⟩
   ·obtain⟨Y_,u1,u2,u3⟩:=r2.mem.turn (SY:=.done e2) LC (mu r2.ext) P3
    cases e2 with
    |nor=>exact absurd rfl fB
    |exit i=>
     refine⟨_,_,run_endRound u1, ?_⟩
     exact⟨by rw[hr];rfl,fin (.done (.exit i)) _ _ Y_ (u3 _ _ rfl) (by rw[hr])⟩
    |ret=>
     refine⟨_,_,run_endRound u1, ?_⟩
     exact⟨by rw[hr];rfl,fin (.done .ret) _ _ Y_ (u3 _ _ rfl) (by rw[hr])⟩
end
end Go.En
namespace Go.En
open Go.RowKit
section
variable {P:Program} {T:cX} {F:e_} {w:World} {C:Cx} {h:Hp} {n m:Nat}
def results1(tmps:Array Value):ResultVar→Sem Value
 | .tmp t=>pure (tmps.getD t Go.undef)
 | .cell a t=>do loadVar t (←asAddr (tmps.getD a Go.undef))
theorem sj(hT:T.Ok P)(hG:∀g cs,T.glob g=some cs→C.L.glob g=some cs)(hm:Mem F C h w){tm:Tm}{a:Act}(ht:∀i,ar C h.length (look tm i) (a.tmps.getD i Go.undef)):∀(l:List ResultVar) (vs:List AV),outs T h tm l=some vs→
  ∃us:List Value,(l.mapM (results1 a.tmps)).run P w=.ok us w∧us.length=vs.length∧∀k,k<vs.length→ar C h.length (vs.getD k .undef) (us.getD k Go.undef)
 |[],vs,h1=>by
  simp[outs] at h1
  subst h1
  exact⟨[],by simp,rfl,by simp⟩
 | .tmp t::r,vs,h1=>by
  simp only[outs] at h1
  obtain⟨l,h2,h1⟩:=au h1
  cases h1
  obtain⟨us,h3,h4,h5⟩:=sj hT hG hm ht r l h2
  refine⟨a.tmps.getD t Go.undef::us, ?_,by simp[h4],fun k hk=> ?_⟩
  ·simp only[List.mapM_cons,results1,Sem.run_bind,Sem.run_pure,Result.andThen_ok,h3]
  ·cases k with
   |zero=>simpa using ht t
   |succ k=>simpa using h5 k (by simpa using hk)
 | .cell b t::r,vs,h1=>by
  simp only[outs] at h1
  split at h1
  ·rename_i aV
   obtain⟨l,h2,h1⟩:=au h1
   cases h1
   obtain⟨us,h3,h4,h5⟩:=sj hT hG hm ht r l h2
   obtain⟨u,h6,h7⟩:=vf hT hG hm (fun _ _=>rfl) aV (ht b)
   have h8:(results1 a.tmps (.cell b t)).run P w=.ok u w:=by
    have hp:∃ad,a.tmps.getD b Go.undef=.pointer (some ad):=by
     unfold ql at aV
     split at aV
     ·rename_i i cs off _ hc
      obtain⟨B,o,h9,_⟩:=yL hG hm (fun _ _=>rfl) hc (ht b)
      exact⟨_,h9⟩
     ·cases aV
    obtain⟨ad,hp⟩:=hp
    simp only[results1]
    rw[hp] at h6 ⊢
    simpa [Instr.loadAt,Instr.sureAddr,asAddr] using h6
   refine⟨u::us, ?_,by simp[h4],fun k hk=> ?_⟩
   ·simp only[List.mapM_cons,Sem.run_bind,Sem.run_pure,Result.andThen_ok,h8,h3]
   ·cases k with
    |zero=>simpa using h7
    |succ k=>simpa using h5 k (by simpa using hk)
  ·cases h1
theorem u5{fn:Func}{tmps:Array Value}{us:List Value}(h1:(fn.results.toList.mapM (results1 tmps)).run P w=.ok us w):
  (results fn tmps).run P w=.ok (if h:us.length=1 then us[0] else .tuple us.toArray) w:=by
 have e:results fn tmps=(do let vs←fn.results.mapM (results1 tmps);pure (if h:vs.size=1 then vs[0] else .tuple vs)):=rfl
 rw[e,Array.mapM_eq_mapM_toList]
 simp only[map_eq_pure_bind,bind_assoc,pure_bind,Sem.run_bind,h1,Result.andThen_ok,Sem.run_pure]
 simp
theorem xo{C:Cx}{n:Nat}{vs:List AV}{us:List Value}(hl:us.length=vs.length)(hr:∀k,k<vs.length→ar C n (vs.getD k .undef) (us.getD k Go.undef)):
  ar C n (xp vs) (if h:us.length=1 then us[0] else .tuple us.toArray):=by
 unfold xp
 split
 ·rename_i v
  have:us.length=1:=by simpa using hl
  rw[dif_pos this]
  have h1:=hr 0 (by simp)
  match us,this with
  |[u],_=>simpa using h1
 ·rename_i fB
  have:¬us.length=1:=by
   intro e
   rw[hl] at e
   match vs,e with
   |[v],_=>exact fB v rfl
  rw[dif_neg this]
  refine .tup _ _ (by simpa using hl) (fun k hk=> ?_)
  have:=hr k hk
  simpa [List.getD_eq_getElem?_getD,Array.getD_eq_getD_getElem?] using this
theorem sI{fn:Func}{tmps:Array Value}{R:Ending→World→Prop}{K0:Nat→Option Go.Obj}:∀(ds:List Deferred) (C:Cx) (w:World),Marks F.w0 C ds→Mem F C h w→(∀B o,K0 B=some o→C.K B=some o∧B<F.w0.heap.size)→
  (∀(C':Cx) (w':World),C'.M=C.M→C'.μ=C.μ→C'.L=C.L→C'.K=K0→C'.I=C.I→Mem F C' h w'→∃v,(results fn tmps).run P w'=.ok v w'∧R (.returned v) w')→LeavesInM (FW none) 0 P fn tmps R ds .returning w
 |[],C,w,_,hm,hk,hq=>by
  have h1:=hm.reK (K:=K0) (fun B o e=>(hk B o e).1)
  exact hq (C.reK K0) w rfl rfl rfl rfl rfl h1
 |d::ds,C,w,hd,hm,hk,hq=>by
  obtain⟨⟨D,rfl,h1,h2,h3⟩,h4⟩:=hd
  have hD:=hm.kept D _ (.inl h1)
  have bW:=(Array.getElem?_eq_some_iff.1 hD).1
  refine⟨by simp,.inl ⟨D,{w with heap:=w.heap.setIfInBounds D (.deferred none)},rfl, ?_, ?_⟩⟩
  ·have e1:(getObj D).run P w=.ok (.deferred (some [])) w:=by simp[getObj,Sem.run,hD]
   have e2:(setObj D (.deferred none)).run P w=.ok () {w with heap:=w.heap.setIfInBounds D (.deferred none)}:=by simp[setObj,Sem.run,hD]
   simp[Instr.takeDeferred,e1,e2]
  ·have xX:∀k,k≠D→(w.heap.setIfInBounds D (.deferred none))[k]? =w.heap[k]? :=fun k hk=>by simp[Ne.symm hk]
   have ayu:∀a v,C.M a=some v→a.block≠D:=fun a v hv e=>by
    have hc:=hm.prot a v hv
    unfold World.cell? at hc
    rw[e,hD] at hc
    cases hc
   let K1:Nat→Option Go.Obj:=fun B=>if B=D then none else C.K B
   have hK1:∀B o,K1 B=some o→C.K B=some o∧B≠D:=fun B o e=>by
    have e:(if B=D then none else C.K B)=some o:=e
    split at e
    ·cases e
    ·exact⟨e,by assumption⟩
   have hm':=hm.reK (K:=K1) (fun B o e=>(hK1 B o e).1)
   have QU:Mem F (C.reK K1) h {w with heap:=w.heap.setIfInBounds D (.deferred none)}:=by
    refine⟨fun id aH=>(hm'.objs id aH).mono (Ext.refl _ _) (Nat.le_refl _) (fun B e=>xX B (fun e'=>hm.ksep D _ (.inl h1) id aH (by rw[←e'];exact e))),fun a v e=>(World.cell?_of_block (xX _ (ayu a v e))).trans (hm.prot a v e),hm.src,hm.sep,hm.inj,
     fun id B aH e=> ?_,fun B o e=> ?_,hm'.ksep,hm.bnd,⟨hm.fr.os,hm.fr.tape,hm.fr.output,by simpa using hm.fr.size,fun k hk hs=>(xX k (by omega)).trans (hm.fr.block k hk hs)⟩,hm.gl⟩
    ·obtain⟨g1,g2⟩:=hm.lt id B aH e
     exact⟨by simpa using g1,g2⟩
    ·rcases e with e|⟨m,c,e,e2⟩
     ·obtain⟨g1,g2⟩:=hK1 B o e
      exact(xX B g2).trans (hm.kept B o (.inl g1))
     ·have g1:=hm.kept B o (.inr ⟨m,c,e,e2⟩)
      refine(xX B (fun eB=> ?_)).trans g1
      rw[eB,hD,e2] at g1
      cases g1
   refine sI ds (C.reK K1) _ ?_ QU (fun B o e=> ?_) (fun C' w' a1 a2 a3 a4 a5 m=>hq C' w' a1 a2 a3 a4 a5 m)
   ·have:∀(ds:List Deferred),(∀d'∈ds,d'≠{target:=.collected D,args:= #[]})→Marks F.w0 C ds→Marks F.w0 (C.reK K1) ds:=by
     intro ds
     induction ds with
     |nil=>intro _ _;trivial
     |cons d ds ih=>
      rintro hn ⟨⟨D',b1,b2,b3,b4⟩,b5⟩
      refine⟨⟨D',b1, ?_,b3,b4⟩,ih (fun d' Uq=>hn d' (by simp[Uq])) b5⟩
      show(if D'=D then none else C.K D')=_
      rw[if_neg (fun e=>hn d (by simp) (by rw[b1,e])),b2]
    exact this ds h3 h4
   ·obtain⟨g1,g2⟩:=hk B o e
    refine⟨?_,g2⟩
    show(if B=D then none else C.K B)=_
    rw[if_neg (by omega),g1]
theorem DF{M M':Addr→Option Value}{x:PV}{v:Value}(hs:j7 x=true)(hr:bu M x v):bu M' x v:=by
 unfold j7 at hs
 split at hs
 ·cases hr;exact .int _ _
 ·cases hr;exact .bool _
 ·cases hr;exact .str _
 ·cases hr;exact .nils
 ·cases hs
theorem qh:∀(l:List AV) (i k:Nat),look (fK l i) k=if i≤k then l.getD (k-i) .undef else .undef
 |[],i,k=>by simp[fK,look]
 |v::l,i,k=>by
  simp only[fK,look,qh l (i+1) k]
  by_cases h1:i=k
  ·subst h1;simp
  ·rw[if_neg h1]
   by_cases h2:i≤k
   ·rw[if_pos (by omega),if_pos h2,show k-i=(k-(i+1))+1 from by omega]
    simp
   ·rw[if_neg (by omega),if_neg h2]
end
end Go.En
namespace Go.En
open Go.RowKit
section
variable {P:Program} {T:cX} {F:e_} {w:World} {C:Cx} {h:Hp} {n m:Nat} {L:ct}
theorem LL(hm:Mem F C h w)(hS:F.S=fun _=>False){v v':AV}{u:Value}(hf:jO h m v=true)(hz:freeze h m 5 v=some v')(hr:ar C h.length v u)(sM:ar (C.withM (gone C h m w)) h.length v' u){C':Cx}{n':Nat}(hM:C'.M=sw F.w0 (gone C h m w)):
  ar C' n' v' u:=by
 unfold jO at hf
 rw[Bool.or_eq_true] at hf
 rcases hf with hf|hf
 ·have:v'=v:=by
   unfold cR at hf
   split at hf<;>first|(simp only[freeze] at hz;cases hz;rfl)|cases hf
  subst this
  exact lE hf hr
 ·split at hf
  ·rename_i id g off len
   rw[Bool.and_eq_true] at hf
   obtain⟨aH,WR⟩:=hf
   have aH:=of_decide_eq_true aH
   split at WR
   ·rename_i g' sz sh es ho
    simp only[freeze] at hz
    rw[if_neg (by omega)] at hz
    simp only[Option.map_eq_some_iff] at hz
    obtain⟨l,hp,rfl⟩:=hz
    have Uf:=hp
    unfold rM at Uf
    simp only[ho] at Uf
    split at Uf
    ·rename_i hc
     obtain⟨hg,hle⟩:=hc
     cases Uf
     refine .p _ _ ?_
     rw[hM]
     have Ng:=cn sM
     rcases yY hm ho hg hr with⟨B,o,cap,a,hO,hμ,EV,ha,rfl,_,aCD,c,Qj,hB,ES,aa⟩|⟨hO,hμ,Lw,rfl,rfl,rfl⟩
     ·have Uk:F.w0.heap.size≤B:=by
       rcases (hm.lt id B hO (by rw[hμ];rfl)).2 with h1|h1
       ·rw[hS] at h1;exact h1.elim
       ·exact h1
      generalize hee:List.take len (List.drop off es)=ee at Ng ⊢
      generalize hlen:(some {block:=B,off:=a,spot:=none}:Option Addr)=ad at Ng
      generalize oO:len=ln at Ng
      generalize vQ:cap-off=cp at Ng
      cases Ng with
      |sl0=>exact .sl0
      |slE a' kY=>exact .slE _ _
      |sl _ B' o' kY i4 f h1 h2 h3 h4=>
       cases hlen
       refine .sl _ _ _ _ i4 f h1 h2 (fun k hk=>⟨?_,(h3 k hk).2⟩) (fun k hk=> ?_)
       ·show sw F.w0 (gone C h m w) _=_
        unfold sw
        rw[if_pos Uk];exact(h3 k hk).1
       ·refine DF ?_ (h4 k hk)
        have:∀y∈flat ee,j7 y=true:=fun y hy=>by
         simp only[flat,List.mem_flatMap] at hy
         obtain⟨z,Rs,hz2⟩:=hy
         rw[←hee] at Rs
         simp only[List.all_eq_true] at WR
         exact WR z (List.mem_of_mem_drop (List.mem_of_mem_take Rs)) y hz2
        rw[List.getD_eq_getElem?_getD,List.getElem?_eq_getElem hk]
        exact this _ (List.getElem_mem _)
     ·subst Lw
      exact .sl0
    ·cases Uf
   ·cases WR
  ·cases hf
end
end Go.En
namespace Go.En
open Go.RowKit
section
variable {P:Program} {T:cX} {L:ct}
theorem KE{x:X}{A:At}(hT:x.T.Ok P){C:Cx}(hG:∀g cs,x.T.glob g=some cs→C.L.glob g=some cs){fn:Func}{s:St}{r:AV×Hp}(he:Hl x A.n0 fn s=some r){a:Act}{w:World}(Gs:∀i,ar C s.hp.length (look s.tm i) (a.tmps.getD i Go.undef))(hm:Mem A.F C s.hp w)
  (H0:Ext A.n0 A.C0 C):
  A.n0≤r.2.length∧∃u,(results fn a.tmps).run P w=.ok u w∧∃C',Ext A.n0 A.C0 C'∧C'.K=C.K∧Mem A.F C' r.2 w∧ar C' r.2.length r.1 u∧
   (x.T.fresh x.f=true→A.F.S=(fun _=>False)→ar (C'.withM (sw A.F.w0 C'.M)) r.2.length r.1 u):=by
 unfold Hl at he
 obtain⟨vs,h1,he⟩:=au he
 obtain⟨_,Dh,he⟩:=au he
 have Dh:=df Dh
 split at he
 ·split at he
  ·rename_i hg hc
   cases he
   obtain⟨us,h5,h6,h7⟩:=sj hT hG hm Gs _ _ h1
   refine⟨hc.1,_,u5 h5,C,H0,rfl,hm,xo (by omega) (fun k hk=>h7 k hk),fun Cl _=> ?_⟩
   rw[hc.2] at Cl;cases Cl
  ·cases he
 obtain⟨vs',h2,he⟩:=au he
 split at he
 ·rename_i hc
  obtain⟨h3,h4⟩:=hc
  cases he
  have hl:((s.hp.take A.n0).map (eS A.n0)).length=A.n0:=by simp;omega
  obtain⟨us,h5,h6,h7⟩:=sj hT hG hm Gs _ _ h1
  obtain⟨h8,h9⟩:=sE h2
  refine⟨Nat.le_of_eq hl.symm,_,u5 h5,C.withM (gone C s.hp A.n0 w),H0.trans (oR _),rfl,hm.gone h4, ?_,fun Cl hS=> ?_⟩
  ·rw[hl]
   exact xo (by omega) (fun k hk=>B3 (rp hm 5 _ _ _ (h9 k (by omega)) (h7 k (by omega))) (lh h3 hk))
  ·rw[hl]
   have l6:vs.all (jO s.hp A.n0)=true:=by rw[Cl] at Dh;simpa using Dh
   exact xo (by omega) (fun k hk=>LL hm hS (lh l6 (by omega)) (h9 k (by omega)) (h7 k (by omega)) (rp hm 5 _ _ _ (h9 k (by omega)) (h7 k (by omega))) rfl)
 ·cases he
theorem Fi{call:ei}{yield:nN}{fuel f:Nat}{fn:Func}(hT:T.Ok P)(x7:∀g cs,T.glob g=some cs→L.glob g=some cs)(gR:∀f as h r,call f as h=some r→dq L T.fresh P f as h r)(sL:∀id as h r,yield id as h=some r→pR L P id as h r)
  (EM:P.follows .mixedOrders=true)(yb:L.code=T.loops)(eM:L.nt f=some fn.ntmps)(hf:P.funcs[f]? =some fn)
  (ao4:(fn.name== "runtime.NumGoroutine")=false)(P0:∀c,fn.body=some c→cO T f c=true∧cS T f c 0){as:List AV}{h:Hp}{r:AV×Hp}(he:enter T call yield fuel f fn as h=some r):dq L T.fresh P f as h r:=by
 unfold enter at he
 split at he
 ·cases he
 ·rename_i c hc
  split at he
  ·rename_i hlen
   obtain⟨hb,wo⟩:=P0 c hc
   cases h1:ia ⟨T,call,yield,f,fn.ntmps,fuel,false⟩ c 0 ⟨fK as 0,h⟩ with
   |none=>rw[h1] at he;cases he
   |some q=>
    obtain⟨e,s⟩:=q
    rw[h1] at he
    have oM:Hl ⟨T,call,yield,f,fn.ntmps,fuel,false⟩ h.length fn s=some r∧(e=.nor∨e=.ret):=by
     cases e with
     |nor=>exact⟨he,.inl rfl⟩
     |ret=>exact⟨he,.inr rfl⟩
     |exit _=>cases he
    obtain⟨oM,mI⟩:=oM
    refine⟨⟨fn,hf,by rw[hc];rfl,ao4⟩, ?_,fun w C vs hL hm hs hr=> ?_⟩
    ·unfold Hl at oM
     obtain⟨_,_,oM⟩:=au oM
     obtain⟨_,_,oM⟩:=au oM
     split at oM
     ·split at oM
      ·rename_i h2
       cases oM
       exact h2.1
      ·cases oM
     obtain⟨_,_,oM⟩:=au oM
     split at oM
     ·rename_i h2
      cases oM
      simp;omega
     ·cases oM
    ·let A:At:=⟨⟨w,j8 C h,C.M⟩,C,h.length,fn.ntmps,none⟩
     refine rH.1 (callsIn_of_wp_marks (F:=FW none) (n:=0) hf hc trivial ?_ rfl)
     have HU:dx A ⟨fK as 0,h⟩ {tmps:=vs++Array.replicate (fn.ntmps-vs.size) Go.undef,defers:=[]} w:=by
      refine⟨C, ?_,trivial,fun i=> ?_,hm,Ext.refl _ _,Nat.le_refl _⟩
      ·show(vs++Array.replicate (fn.ntmps-vs.size) Go.undef).size=fn.ntmps
       simp;omega
      ·rw[qh]
       simp only[Nat.zero_le,if_true,Nat.sub_zero]
       rcases Nat.lt_or_ge i as.length with hi|hi
       ·have:=hr i hi
        have e:(vs++Array.replicate (fn.ntmps-vs.size) Go.undef).getD i Go.undef=vs.getD i Go.undef:=by
         simp only[Array.getD_eq_getD_getElem?]
         rw[Array.getElem?_append_left (by omega)]
        rw[e];exact this
       ·rw[List.getD_eq_getElem?_getD,List.getElem?_eq_none hi]
        exact .undef _
     have hH:RW L P ⟨T,call,yield,f,fn.ntmps,fuel,false⟩ A:={T:=hT,glob:=x7,calls:=gR,yields:=sL,L0:=hL,mix:=EM,nt:=rfl,rn:=(fun _=>rfl),code:=yb,num:=eM}
     refine uG c 0 _ e s A _ _ w hH hb wo h1 HU (fun a w' h2=> ?_)
     obtain⟨C1,r1⟩:=h2
     have JA:LeavesInM (FW none) 0 P fn a.tmps (fun
       | .returned u,w'=>∃C',Ext h.length C C'∧C'.K=C.K∧Mem ⟨w,j8 C h,C.M⟩ C' r.2 w'∧ar C' r.2.length r.1 u∧(T.fresh f=true→j8 C h=(fun _=>False)→ar (C'.withM (sw w C'.M)) r.2.length r.1 u)
       |_,_=>False) a.defers .returning w':=by
      refine sI (F:=A.F) (h:=s.hp) (K0:=C.K) a.defers C1 w' r1.defers r1.mem (fun B o e=>⟨r1.ext.K B o e,(Array.getElem?_eq_some_iff.1 (hm.kept B o (.inl e))).1⟩) (fun C2 w2 a1 a2 a3 a4 a5 m2=> ?_)
      have eC:C2=C1.reK C.K:=by
       cases C2;cases C1
       simp only at a1 a2 a3 a4 a5
       subst a1;subst a2;subst a3;subst a4;subst a5
       rfl
      subst eC
      obtain⟨g0,u,g1,C3,g2,g3,g4,g5,g6⟩:=KE (A:=A) (x:=⟨T,call,yield,f,fn.ntmps,fuel,false⟩) hT (fun g cs e=>by rw[show(C1.reK C.K).L=L from r1.ext.L.trans hL];exact x7 g cs e) oM (a:=a) (w:=w2) (C:=C1.reK C.K) (fun i=>(r1.tm i).reK) m2 ⟨r1.ext.M,fun _ _ e=>e,r1.ext.I,r1.ext.L,r1.ext.μ⟩
      exact⟨u,g1,C3,g2,g3,g4,g5,g6⟩
     rcases mI with rfl|rfl
     ·exact JA
     ·exact JA
  ·cases he
theorem LP{M:Addr→Option Value}{v:Value}(h:bu M (.sl []) v):bu M .nils v∨bu M .sle v:=by
 cases h with
 |sl0=>exact .inl .nils
 |slE a cap=>exact .inr (.sle a cap)
 |sl _ B o cap sz f=>exact .inr (.sle _ _)
theorem qq:∀{h:Hp} {l:List Nat},mK h=some l→h=l.map fun sz=>.arr 0 sz false []
 |[],l,e=>by simp[mK] at e;subst e;rfl
 |o::r,l,e=>by
  unfold mK at e
  split at e
  ·cases ‹_=[]›
  ·rename_i h1
   cases h1
   simp only[Option.map_eq_some_iff] at e
   obtain⟨l',h2,rfl⟩:=e
   rw[qq h2];rfl
  ·cases e
theorem sX{r:Option (AV×Hp)}{q:Nat×List Nat}(h:sY r=some q):r=some (.arr q.1 0 0 0,q.2.map fun sz=>.arr 0 sz false []):=by
 unfold sY at h
 split at h
 ·simp only[Option.map_eq_some_iff] at h
  obtain⟨l,h1,rfl⟩:=h
  rw[qq h1]
 ·cases h
theorem Jl{M:Addr→Option Value}{v:Value}(h:bu M .nils v):bu M (.sl []) v:=by cases h;exact .sl0
theorem dq.nil_sl{fresh:Nat→Bool}{f:Nat}{as:List AV}{h h':Hp}(k:dq L fresh P f as h (.p .nils,h')):dq L fresh P f as h (.p (.sl []),h'):=by
 refine⟨k.fn,k.len,fun w C vs hL hm hs hr=>(k.calls w C vs hL hm hs hr).mono fun e w' he=> ?_⟩
 cases e with
 |returned u=>
  obtain⟨C',h1,h2,h3,h4,h5⟩:=he
  exact⟨C',h1,h2,h3,.p _ _ (Jl (cn h4)),fun e1 e2=>.p _ _ (Jl (cn (h5 e1 e2)))⟩
 |panicked _=>exact he.elim
 |outgrown=>exact he.elim
theorem yz{f:Nat}{fresh:Nat→Bool}{as:List AV}{r:Option (AV×Hp)}(hp:CE r=true)(hc:∀q,r=some q→dq L fresh P f as [] q):dq L fresh P f as [] (.p (.sl []),[]):=by
 unfold CE at hp
 split at hp
 ·exact(hc _ rfl).nil_sl
 ·exact hc _ rfl
 ·cases hp
theorem wS{fresh:Nat→Bool}{f:Nat}{r:AV×Hp}(k1:dq L fresh P f [.p .nils] [] r)(k2:dq L fresh P f [.p .sle] [] r):dq L fresh P f [.p (.sl [])] [] r:=by
 refine⟨k1.fn,k1.len,fun w C vs hL hm hs hr=> ?_⟩
 have h0:=hr 0 (by simp)
 rcases LP (cn h0) with h1|h1
 ·exact k1.calls w C vs hL hm hs (fun k hk=>by
   have:k=0:=by simpa using hk
   subst this;exact .p _ _ h1)
 ·exact k2.calls w C vs hL hm hs (fun k hk=>by
   have:k=0:=by simpa using hk
   subst this;exact .p _ _ h1)
theorem Oh{f:Nat}{as:List AV}{h:Hp}{c:List AV→Option (AV×Hp)}{r:AV×Hp}(ha:kT as h=true)(hc:∀as r,c as=some r→dq L T.fresh P f as [] r)(he:wR c=some r):dq L T.fresh P f as h r:=by
 unfold kT at ha
 split at ha
 ·unfold wR at he
  split at he
  ·rename_i a b e1 e2
   split at he
   ·rename_i eV
    cases he
    have k2:=hc _ _ (sX e2)
    rw[←eV.1,←eV.2] at k2
    exact wS (hc _ _ (sX e1)) k2
   ·cases he
  ·split at he
   ·rename_i hp
    cases he
    exact wS (yz hp.1 (fun q e=>hc _ _ e)) (yz hp.2 (fun q e=>hc _ _ e))
   ·cases he
 ·cases ha
theorem Kh{fs:Nat→Option Func}{pX:ei}(hT:T.Ok P)(EM:P.follows .mixedOrders=true)(hL:L=⟨T.loops,fun f=>(fs f).map (·.ntmps),T.glob⟩)
  (Nr:∀f fn,fs f=some fn→P.funcs[f]? =some fn∧(fn.name== "runtime.NumGoroutine")=false∧∀c,fn.body=some c→cO T f c=true∧cS T f c 0)
  (acP:∀f h_ l,T.loops f h_=some l→cO T f l.2.1=true∧cO T f l.2.2=true∧cS T f l.2.1 0∧cS T f l.2.2 0)
  (ao0:∀f as h r,pX f as h=some r→dq L T.fresh P f as h r):∀n,(∀f as h r,(sys T fs pX n).1 f as h=some r→dq L T.fresh P f as h r)∧(∀id as h r,(sys T fs pX n).2 id as h=some r→pR L P id as h r):=by
 have yb:L.code=T.loops:=by rw[hL]
 have x7:∀g cs,T.glob g=some cs→L.glob g=some cs:=fun g cs e=>by rw[hL];exact e
 have eM:∀f fn,fs f=some fn→L.nt f=some fn.ntmps:=fun f fn e=>by rw[hL];simp[e]
 intro n
 induction n with
 |zero=>exact⟨fun f as h r he=>(by cases he),fun id as h r he=>(by cases he)⟩
 |succ n ih=>
  refine⟨fun f as h r he=> ?_,fun id as h r he=>Dk hT x7 ih.1 ih.2 EM yb eM acP he⟩
  simp only[sys] at he
  cases ho:pX f as h with
  |some r'=>
   rw[ho] at he
   cases he
   exact ao0 _ _ _ _ ho
  |none=>
   rw[ho] at he
   simp only[aW] at he
   obtain⟨fn,h1,he⟩:=au he
   obtain⟨h2,h3,h4⟩:=Nr f fn h1
   have PY:∀as h r,enter T (sys T fs pX n).1 (sys T fs pX n).2 n f fn as h=some r→dq L T.fresh P f as h r:=fun as h r he=>Fi hT x7 ih.1 ih.2 EM yb (eM f fn h1) h2 h3 h4 he
   split at he
   ·rename_i Lt
    exact Oh Lt.2 (fun as r he=>PY as [] r he) he
   ·exact PY _ _ _ he
end
end Go.En
namespace Go.En
def Vb:Value→Option PV
 | .int k n=>some (.int k n)
 | .bool b=>some (.bool b)
 | .string s=>some (.str s)
 | .slice none 0 0=>some .nils
 | .pointer none=>some .nilp
 | .nilFunc=>some .nilf
 | .nilIface=>some .nili
 | .map none=>some .nilm
 |_=>none
def Ml:List Value→Option (List PV)
 |[]=>some []
 |v::r=>match Vb v,Ml r with
  |some x,some l=>some (x::l)
  |_,_=>none
def ui:Value→Bool
 | .agg _=>true
 |_=>false
def yq(P:Program)(d:TypeDesc)(t:Nat):Bool:=
 match d with
 | .struct fs=>fs.toList.all (fun f=>(P.info? f.type).isSome)&& !P.stoodInHeld t
 |_=>true
def QN(d:TypeDesc)(n:Nat)(z:Value):Bool:=(!aO d||ui z)&&(aO d||(decide (n=1)&& !ui z))
def SQ(P:Program)(t:Nat):Option TI:=
 match P.underlying t,P.info? t with
 |some d,some inf=>match inf.zero with
  |some z=>match Ml z.cells.toList with
   |some zs=>if (decide (zs.length=inf.size)&&QN d inf.size z&&yq P d t)=true then some ⟨d,inf.size,inf.bytes,zs⟩ else none
   |none=>none
  |none=>none
 |_,_=>none
theorem TA{M:Addr→Option Value}{v:Value}{x:PV}(h:Vb v=some x):bu M x v∧(AV.p x).one=true:=by
 unfold Vb at h
 split at h<;>cases h
 ·exact⟨.int _ _,rfl⟩
 ·exact⟨.bool _,rfl⟩
 ·exact⟨.str _,rfl⟩
 ·exact⟨.nils,rfl⟩
 ·exact⟨.nilp,rfl⟩
 ·exact⟨.nilf,rfl⟩
 ·exact⟨.nili,rfl⟩
 ·exact⟨.nilm,rfl⟩
theorem Jd{M:Addr→Option Value}:∀{l:List Value} {zs:List PV},Ml l=some zs→zs.length=l.length∧∀k,k<zs.length→bu M (zs.getD k .nils) (l.getD k Go.undef)∧(AV.p (zs.getD k .nils)).one=true
 |[],zs,h=>by simp[Ml] at h;subst h;simp
 |v::r,zs,h=>by
  simp only[Ml] at h
  split at h
  ·rename_i x l h1 h2
   cases h
   obtain⟨h3,h4⟩:=Jd h2
   refine⟨by simp[h3],fun k hk=> ?_⟩
   cases k with
   |zero=>exact TA h1
   |succ k=>simpa using h4 k (by simpa using hk)
  ·cases h
theorem IZ{P:Program}{t:Nat}{i:TI}(h:SQ P t=some i):∃inf z,P.underlying t=some i.desc∧P.info? t=some inf∧inf.size=i.size∧inf.bytes=i.bytes∧inf.zero=some z∧Ml z.cells.toList=some i.zero∧
  i.zero.length=i.size∧(aO i.desc=true→ui z=true)∧(aO i.desc=false→i.size=1∧ui z=false)∧yq P i.desc t=true:=by
 unfold SQ at h
 split at h
 ·rename_i d inf h1 h2
  split at h
  ·rename_i z h3
   split at h
   ·rename_i zs h4
    split at h
    ·rename_i hc
     cases h
     simp only[Bool.and_eq_true,decide_eq_true_eq] at hc
     obtain⟨⟨h5,h6⟩,h7⟩:=hc
     refine⟨inf,z,h1,h2,rfl,rfl,h3,h4,h5,fun ha=> ?_,fun ha=> ?_,h7⟩
     ·simp only[QN,ha] at h6;simpa using h6
     ·simp only[QN,ha] at h6;simpa using h6
    ·cases h
   ·cases h
  ·cases h
 ·cases h
theorem aao{T:cX}{P:Program}(h:∀t i,T.info t=some i→SQ P t=some i):T.Ok P:=by
 refine⟨fun t i hi=> ?_,fun t i fs hi hd=> ?_⟩
 ·obtain⟨inf,z,h1,h2,h3,h4,h5,h6,h7,h8,h9,jU⟩:=IZ (h t i hi)
  obtain⟨k1,k2⟩:=Jd (M:=fun _=>none) h6
  have hzs:z.cells.size=i.size:=by simp at k1;omega
  refine⟨h1,inf,z,h2,h3,h4,h5,hzs,h7,fun k hk=> ?_,fun ha=> ?_,fun ha=> ?_⟩
  ·have:=k2 k hk
   have e:z.cells.toList.getD k Go.undef=z.cells.getD k Go.undef:=by simp[List.getD_eq_getElem?_getD,Array.getD_eq_getD_getElem?]
   rw[e] at this
   exact this
  ·have:=h8 ha
   cases z<;>first|rfl|(simp[ui] at this)
  ·obtain⟨nz,wt⟩:=h9 ha
   refine⟨nz, ?_⟩
   cases z<;>first|rfl|(simp[ui] at wt)
 ·obtain⟨inf,z,h1,h2,h3,h4,h5,h6,h7,h8,h9,jU⟩:=IZ (h t i hi)
  rw[hd] at jU
  simp only[yq,Bool.and_eq_true,List.all_eq_true,Bool.not_eq_true'] at jU
  exact jU
end Go.En
namespace Go.En
open Go.RowKit
inductive Sh where
 |int (k:IntKind)
 |bool
 |str
 |sl (s:Sh)
 |st (fs:List Sh)
 |bot (n:Nat)
mutual
def Sh.size:Sh→Nat
 | .st fs=>Sh.sizes fs
 | .bot n=>n
 |_=>1
def Sh.sizes:List Sh→Nat
 |[]=>0
 |s::r=>s.size+Sh.sizes r
end
mutual
def Is:Sh→PV→Prop
 | .int k,x=>∃n,x=.int k n∧(Lit.int k n).wf=true
 | .bool,x=>∃b,x=.bool b
 | .str,x=>∃s:ByteArray,x=.str s∧s.size≤maxLen
 | .sl s,x=>∃es:List PV,x=.sl es∧es.length≤maxLen∧∀y∈es,Is s y
 | .st fs,x=>∃cs,x=.agg cs∧jX fs cs
 | .bot _,_=>False
def jX:List Sh→List PV→Prop
 |[],cs=>cs=[]
 |s::r,cs=>∃y rest,Is s y∧cs=y.cells++rest∧jX r rest
end
mutual
def wY(P:Program):Sh→TypeId→Bool
 | .int k,t=>(match P.underlying t with|some (.int k')=>decide (k'=k)|_=>false)
 | .bool,t=>(match P.underlying t with|some .bool=>true|_=>false)
 | .str,t=>(match P.underlying t with|some .string=>true|_=>false)
 | .sl s,t=>(match P.underlying t with|some (.slice e)=>wY P s e&&decide (P.cellsOf e=s.size∧0<s.size)|_=>false)
 | .st fs,t=>(match P.underlying t with|some (.struct fields)=>GZ P fs fields.toList 0&&decide (P.cellsOf t=Sh.sizes fs)|_=>false)
 | .bot _,_=>true
def GZ(P:Program):List Sh→List Field→Nat→Bool
 |[],[],_=>true
 |s::r,f::fs,off=>decide (f.offset=off∧P.cellsOf f.type=s.size)&&wY P s f.type&&GZ P r fs (off+s.size)
 |_,_,_=>false
end
mutual
def jF:Sh→Nat→Prop
 | .bot _,n=>n=0
 | .sl s,n=>jF s (n-1)
 | .st fs,n=>iN fs (n-1)
 |_,_=>True
def iN:List Sh→Nat→Prop
 |[],_=>True
 |s::r,n=>jF s n∧iN r n
end
def tj(M:Addr→Option Value)(x:PV)(cs:List Value):Prop:=
 x.cells.length=cs.length∧∀k,k<cs.length→bu M (x.cells.getD k .nils) (cs.getD k Go.undef)∧(cs.getD k Go.undef).oneCell'=true
theorem tj.one{M:Addr→Option Value}{x:PV}{v:Value}(h:bu M x v)(h1:x.cells=[x])(h2:v.oneCell'=true):tj M x [v]:=by
 refine⟨by rw[h1];rfl,fun k hk=> ?_⟩
 have:k=0:=by simpa using hk
 subst this
 rw[h1]
 exact⟨by simpa using h,h2⟩
theorem xJ{α β:Type}{f:α→Option β}:∀{l:List α} {r:List β},l.mapM f=some r→r.length=l.length∧∀(k:Nat) (a:α),l[k]? =some a→∃b,r[k]? =some b∧f a=some b
 |[],r,h=>by simp at h;subst h;simp
 |a::l,r,h=>by
  simp only[List.mapM_cons,Option.bind_eq_bind,Option.bind_eq_some_iff,Option.pure_def,Option.some.injEq] at h
  obtain⟨b,h1,bs,h2,rfl⟩:=h
  obtain⟨h3,h4⟩:=xJ h2
  refine⟨by simp[h3],fun k c hk=> ?_⟩
  cases k with
  |zero=>simp at hk;subst hk;exact⟨b,rfl,h1⟩
  |succ k=>simpa using h4 k c (by simpa using hk)
theorem LY{w:World}{base n:Nat}{a:Addr}{l:List Value}(h:w.cells? base a n=some l):l.length=n∧∀k,k<n→w.cell? (a.add k)=some (l.getD k Go.undef):=by
 unfold World.cells? at h
 split at h
 ·obtain⟨h1,h2⟩:=xJ h
  simp only[List.length_range] at h1
  refine⟨h1,fun k hk=> ?_⟩
  obtain⟨b,h3,h4⟩:=h2 k k (by simp[hk])
  rw[h4,List.getD_eq_getElem?_getD,h3];rfl
 ·cases h
theorem vB{α:Type}{Q:Nat→α→Prop}:∀(n:Nat),(∀i,i<n→∃a,Q i a)→∃l:List α,l.length=n∧∀(i:Nat) (a:α),l[i]? =some a→Q i a
 |0,_=>⟨[],rfl,fun i a h=>by simp at h⟩
 |n+1,h=>by
  obtain⟨l,h1,h2⟩:=vB n (fun i hi=>h i (by omega))
  obtain⟨a,ha⟩:=h n (by omega)
  refine⟨l++[a],by simp[h1],fun i b hb=> ?_⟩
  rcases Nat.lt_or_ge i l.length with hi|hi
  ·rw[List.getElem?_append_left hi] at hb;exact h2 i b hb
  ·have bW:=(List.getElem?_eq_some_iff.1 hb).1
   have:i=l.length:=by simp at bW;omega
   subst this
   simp at hb
   subst hb;rw[h1];exact ha
section
variable {H:Type} {enc:TypeId×Value→H} {P:Program} {w:World} {spare:Nat→Bool} {held:Bool}
theorem GS:∀(fuel:Nat) (s:Sh) (t:TypeId) (cs:List Value) (d:DataW H) (ps:List MemPlace),jF s fuel→wY P s t=true→DataW.trod enc P w 0 spare held fuel t cs=some (d,ps)→∃x,Is s x∧tj w.cell? x cs:=by
 intro fuel
 induction fuel with
 |zero=>intro s t cs d ps _ _ h;cases h
 |succ fuel ih=>
  intro s t cs d ps Co hs h
  cases s with
  |int k=>
   simp only[wY] at hs
   split at hs
   ·rename_i k' hu
    have:=of_decide_eq_true hs;subst this
    simp only[DataW.trod,hu] at h
    split at h<;>try (cases h;done)
    all_goals first
     |(rename_i e;cases e;done)
     |skip
    ·rename_i kk n e
     cases e
     split at h
     ·rename_i hc
      obtain⟨rfl,hw⟩:=hc
      exact⟨.int _ n,⟨n,rfl,hw⟩,tj.one (.int _ _) rfl rfl⟩
     ·cases h
   ·cases hs
  |bool=>
   simp only[wY] at hs
   split at hs
   ·rename_i hu
    simp only[DataW.trod,hu] at h
    split at h<;>try (cases h;done)
    all_goals first
     |(rename_i e;cases e;done)
     |skip
    ·rename_i b e
     exact⟨.bool b,⟨b,rfl⟩,tj.one (.bool _) rfl rfl⟩
   ·cases hs
  |str=>
   simp only[wY] at hs
   split at hs
   ·rename_i hu
    simp only[DataW.trod,hu] at h
    split at h<;>try (cases h;done)
    all_goals first
     |(rename_i e;cases e;done)
     |skip
    ·rename_i b e
     split at h
     ·rename_i hc
      exact⟨.str b,⟨b,rfl,hc⟩,tj.one (.str _) rfl rfl⟩
     ·cases h
   ·cases hs
  |sl s=>
   simp only[wY] at hs
   split at hs
   ·rename_i e hu
    simp only[Bool.and_eq_true,decide_eq_true_eq] at hs
    obtain⟨zC,oQ,Cf⟩:=hs
    simp only[DataW.trod,hu] at h
    split at h<;>try (cases h;done)
    all_goals first
     |(rename_i e;cases e;done)
     |skip
    ·exact⟨.sl [],⟨[],rfl,by simp,by simp⟩,tj.one .sl0 rfl rfl⟩
    ·rename_i e' a len cap e1
     cases e1
     split at h
     ·rename_i hc
      simp only[Option.bind_eq_some_iff,Option.map_eq_some_iff] at h
      obtain⟨elems,h1,_⟩:=h
      obtain⟨h2,h3⟩:=xJ h1
      simp only[List.length_range] at h2
      have h4:∀i,i<len→∃y,Is s y∧y.cells.length=s.size∧∀k,k<s.size→∃v,w.cell? ((a.add (i*s.size)).add k)=some v∧bu w.cell? (y.cells.getD k .nils) v∧v.oneCell'=true:=by
       intro i hi
       obtain⟨b,_,h5⟩:=h3 i i (by simp[hi])
       simp only[Option.bind_eq_some_iff] at h5
       obtain⟨l,h6,h7⟩:=h5
       obtain⟨h8,h9⟩:=LY h6
       obtain⟨y,jU,nz,wt⟩:=ih s _ l _ _ (by simpa [jF] using Co) zC h7
       rw[oQ] at h8 h9
       refine⟨y,jU,by omega,fun k hk=>⟨l.getD k Go.undef,h9 k hk,wt k (by omega)⟩⟩
      obtain⟨es,h5,h6⟩:=vB len h4
      refine⟨.sl es,⟨es,rfl,by omega,fun y hy=> ?_⟩,tj.one ?_ rfl rfl⟩
      ·obtain⟨i,hi,rfl⟩:=List.getElem_of_mem hy
       exact(h6 i _ (List.getElem?_eq_getElem hi)).1
      ·rcases Nat.eq_zero_or_pos len with hz|hz
       ·subst hz
        have:es=[]:=List.eq_nil_of_length_eq_zero h5
        subst this
        exact .slE a cap
       ·have Lt:a=⟨a.block,a.off,none⟩:=by
         obtain⟨y,_,_,h7⟩:=h4 0 hz
         obtain⟨v,h8,_⟩:=h7 0 Cf
         have e:(a.add (0*s.size)).add 0=a:=by simp[Addr.add]
         rw[e] at h8
         have:a.spot=none:=by
          unfold World.cell? at h8
          split at h8
          ·split at h8
           ·cases h8
           ·rename_i hs;simpa using hs
          ·cases h8
         cases a;simp at this;subst this;rfl
        rw[Lt]
        have hu:∀x∈es,x.cells.length=s.size:=fun x hx=>by
         obtain⟨i,hi,rfl⟩:=List.getElem_of_mem hx
         exact(h6 i _ (List.getElem?_eq_getElem hi)).2.1
        have key:∀k,k<(flat es).length→∃v,w.cell? ⟨a.block,a.off+k,none⟩=some v∧bu w.cell? ((flat es).getD k .nils) v∧v.oneCell'=true:=by
         refine sT (Q:=fun x k=>∃v,w.cell? ⟨a.block,a.off+k,none⟩=some v∧bu w.cell? x v∧v.oneCell'=true) hu (fun i hi j hj=> ?_)
         obtain⟨_,_,h7⟩:=h6 i _ (List.getElem?_eq_getElem hi)
         obtain⟨v,h8,h9⟩:=h7 j hj
         refine⟨v, ?_, ?_⟩
         ·rw[Lt,jR,jR,Nat.add_assoc] at h8;exact h8
         ·have e:es.getD i .nils=es[i]:=by simp[List.getD_eq_getElem?_getD,hi]
          rw[e];exact h9
        have:=bu.sl (M:=w.cell?) es a.block a.off cap s.size (fun k=>(w.cell? ⟨a.block,a.off+k,none⟩).getD Go.undef) (by omega) hu (fun k hk=>by
         obtain⟨v,h7,h8,h9⟩:=key k hk
         rw[h7];exact⟨rfl,h9⟩) (fun k hk=>by
         obtain⟨v,h7,h8,h9⟩:=key k hk
         rw[h7];exact h8)
        rw[h5] at this
        exact this
     ·cases h
   ·cases hs
  |st fs=>
   simp only[wY] at hs
   split at hs
   ·rename_i fields hu
    simp only[Bool.and_eq_true,decide_eq_true_eq] at hs
    obtain⟨Nr,oQ⟩:=hs
    simp only[DataW.trod,hu] at h
    ·split at h
     ·rename_i hlen
      simp only[Option.map_eq_some_iff] at h
      obtain⟨xs,h1,_⟩:=h
      have go:∀(fs:List Sh) (fl:List Field) (off:Nat) (xs:List (DataW H×List MemPlace)),iN fs fuel→GZ P fs fl off=true→off+Sh.sizes fs≤cs.length→
        (fl.mapM fun f=>DataW.trod enc P w 0 spare held fuel f.type ((cs.drop f.offset).take (P.cellsOf f.type)))=some xs→
        ∃ys,jX fs ys∧ys.length=Sh.sizes fs∧∀k,k<ys.length→bu w.cell? (ys.getD k .nils) (cs.getD (off+k) Go.undef)∧(cs.getD (off+k) Go.undef).oneCell'=true:=by
       intro fs
       induction fs with
       |nil=>
        intro fl off xs _ h2 _ _
        exact⟨[],rfl,rfl,fun k hk=>by simp at hk⟩
       |cons s r ihf=>
        intro fl off xs XD h2 h3 h4
        simp only[iN] at XD
        cases fl with
        |nil=>simp[GZ] at h2
        |cons f fl=>
         simp only[GZ,Bool.and_eq_true,decide_eq_true_eq] at h2
         obtain⟨⟨⟨h5,h6⟩,h7⟩,h8⟩:=h2
         simp only[Sh.sizes] at h3
         simp only[List.mapM_cons,Option.bind_eq_bind,Option.bind_eq_some_iff,Option.pure_def,Option.some.injEq] at h4
         obtain⟨b,h9,bs,jU,_⟩:=h4
         obtain⟨y,nz,wt,Uy⟩:=ih s _ _ b.1 b.2 XD.1 h7 h9
         obtain⟨ys,RQ,D9,XI⟩:=ihf fl (off+s.size) bs XD.2 h8 (by omega) jU
         have hy:y.cells.length=s.size:=by rw[wt,h5,h6];simp;omega
         refine⟨y.cells++ys,⟨y,ys,nz,rfl,RQ⟩,by simp[Sh.sizes,hy,D9],fun k hk=> ?_⟩
         rw[pk]
         split
         ·rename_i jG
          have Rd:=Uy k (by rw[←wt];exact jG)
          have e:(List.take (P.cellsOf f.type) (List.drop f.offset cs)).getD k Go.undef=cs.getD (off+k) Go.undef:=by
           rw[h5,h6]
           simp only[List.getD_eq_getElem?_getD,List.getElem?_take,List.getElem?_drop]
           rw[if_pos (by omega)]
          rw[e] at Rd;exact Rd
         ·rename_i jG
          have Rd:=XI (k-y.cells.length) (by simp at hk;omega)
          have e:off+s.size+(k-y.cells.length)=off+k:=by omega
          rw[e] at Rd;exact Rd
      obtain⟨ys,h2,h3,h4⟩:=go fs fields.toList 0 xs (by simpa [jF] using Co) Nr (by omega) h1
      refine⟨.agg ys,⟨ys,rfl,h2⟩,by show ys.length=_;omega,fun k hk=> ?_⟩
      have:=h4 k (by omega)
      rw[Nat.zero_add] at this
      exact this
     ·cases h
   ·cases hs
  |bot n=>simp[jF] at Co
end
mutual
def Sh.sub(r:Sh):Sh→Sh
 | .bot _=>r
 | .sl s=>.sl (Sh.sub r s)
 | .st fs=>.st (Sh.subs r fs)
 | .int k=>.int k
 | .bool=>.bool
 | .str=>.str
def Sh.subs(r:Sh):List Sh→List Sh
 |[]=>[]
 |s::l=>Sh.sub r s::Sh.subs r l
end
def ng(b:Sh)(k:Nat):Nat→Sh
 |0=>.bot k
 |n+1=>Sh.sub (ng b k n) b
mutual
def Kq(P:Program)(self k:Nat):Sh→TypeId→Bool
 | .bot n,t=>decide (t=self∧n=k)
 | .int k,t=>(match P.underlying t with|some (.int k')=>decide (k'=k)|_=>false)
 | .bool,t=>(match P.underlying t with|some .bool=>true|_=>false)
 | .str,t=>(match P.underlying t with|some .string=>true|_=>false)
 | .sl s,t=>(match P.underlying t with|some (.slice e)=>Kq P self k s e&&decide (P.cellsOf e=s.size∧0<s.size)|_=>false)
 | .st fs,t=>(match P.underlying t with|some (.struct fields)=>BC P self k fs fields.toList 0&&decide (P.cellsOf t=Sh.sizes fs)|_=>false)
def BC(P:Program)(self k:Nat):List Sh→List Field→Nat→Bool
 |[],[],_=>true
 |s::r,f::fs,off=>decide (f.offset=off∧P.cellsOf f.type=s.size)&&Kq P self k s f.type&&BC P self k r fs (off+s.size)
 |_,_,_=>false
end
mutual
theorem rW{P:Program}{self k:Nat}{r:Sh}(hr:r.size=k):∀(s:Sh) (t:TypeId),Kq P self k s t=true→(Sh.sub r s).size=s.size
 | .bot n,t,h=>by simp only[Kq,decide_eq_true_eq] at h;simp only[Sh.sub,Sh.size,hr,h.2]
 | .int _,_,_=>rfl
 | .bool,_,_=>rfl
 | .str,_,_=>rfl
 | .sl _,_,_=>rfl
 | .st fs,t,h=>by
  simp only[Kq] at h
  split at h
  ·rename_i fields hu
   simp only[Bool.and_eq_true] at h
   simp only[Sh.sub,Sh.size]
   exact qF hr fs _ _ h.1
  ·cases h
theorem qF{P:Program}{self k:Nat}{r:Sh}(hr:r.size=k):∀(fs:List Sh) (fl:List Field) (off:Nat),BC P self k fs fl off=true→Sh.sizes (Sh.subs r fs)=Sh.sizes fs
 |[],_,_,_=>rfl
 |s::l,[],_,h=>by simp[BC] at h
 |s::l,f::fl,off,h=>by
  simp only[BC,Bool.and_eq_true] at h
  simp only[Sh.subs,Sh.sizes]
  rw[rW hr s _ h.1.2,qF hr l _ _ h.2]
end
mutual
theorem BD{P:Program}{self k:Nat}{r:Sh}(hr:r.size=k)(hb:wY P r self=true):∀(s:Sh) (t:TypeId),Kq P self k s t=true→wY P (Sh.sub r s) t=true
 | .bot n,t,h=>by simp only[Kq,decide_eq_true_eq] at h;rw[h.1];exact hb
 | .int _,_,h=>by simpa only[Kq,wY,Sh.sub] using h
 | .bool,_,h=>by simpa only[Kq,wY,Sh.sub] using h
 | .str,_,h=>by simpa only[Kq,wY,Sh.sub] using h
 | .sl s,t,h=>by
  simp only[Kq] at h
  split at h
  ·rename_i e hu
   simp only[Bool.and_eq_true,decide_eq_true_eq] at h
   simp only[Sh.sub,wY,hu,Bool.and_eq_true,decide_eq_true_eq]
   rw[rW hr s _ h.1]
   exact⟨BD hr hb s _ h.1,h.2⟩
  ·cases h
 | .st fs,t,h=>by
  simp only[Kq] at h
  split at h
  ·rename_i fields hu
   simp only[Bool.and_eq_true,decide_eq_true_eq] at h
   simp only[Sh.sub,wY,hu,Bool.and_eq_true,decide_eq_true_eq]
   rw[qF hr fs _ _ h.1]
   exact⟨Aa hr hb fs _ _ h.1,h.2⟩
  ·cases h
theorem Aa{P:Program}{self k:Nat}{r:Sh}(hr:r.size=k)(hb:wY P r self=true):∀(fs:List Sh) (fl:List Field) (off:Nat),BC P self k fs fl off=true→GZ P (Sh.subs r fs) fl off=true
 |[],[],_,_=>rfl
 |[],_::_,_,h=>by simp[BC] at h
 |s::l,[],_,h=>by simp[BC] at h
 |s::l,f::fl,off,h=>by
  simp only[BC,Bool.and_eq_true,decide_eq_true_eq] at h
  simp only[Sh.subs,GZ,Bool.and_eq_true,decide_eq_true_eq]
  rw[rW hr s _ h.1.2]
  exact⟨⟨h.1.1,BD hr hb s _ h.1.2⟩,Aa hr hb l _ _ h.2⟩
end
theorem Kd{P:Program}{self k:Nat}{b:Sh}(hk:b.size=k)(hb:Kq P self k b self=true):∀n,(ng b k n).size=k∧wY P (ng b k n) self=true
 |0=>⟨rfl,rfl⟩
 |n+1=>by
  obtain⟨h1,h2⟩:=Kd hk hb n
  exact⟨by rw[ng,rW h1 b _ hb,hk],BD h1 h2 b _ hb⟩
mutual
theorem pP:∀(s:Sh) (n m:Nat),m≤n→jF s n→jF s m
 | .bot _,n,m,h,d=>by simp only[jF] at d ⊢;omega
 | .int _,_,_,_,_=>by simp only[jF]
 | .bool,_,_,_,_=>by simp only[jF]
 | .str,_,_,_,_=>by simp only[jF]
 | .sl s,n,m,h,d=>by simp only[jF] at d ⊢;exact pP s _ _ (by omega) d
 | .st fs,n,m,h,d=>by simp only[jF] at d ⊢;exact sZ fs _ _ (by omega) d
theorem sZ:∀(fs:List Sh) (n m:Nat),m≤n→iN fs n→iN fs m
 |[],_,_,_,_=>by simp only[iN]
 |s::l,n,m,h,d=>by simp only[iN] at d ⊢;exact⟨pP s n m h d.1,sZ l n m h d.2⟩
end
mutual
theorem Fs{r:Sh}:∀(s:Sh) (n:Nat),jF r n→jF (Sh.sub r s) n
 | .bot _,n,d=>d
 | .int _,_,_=>by simp only[Sh.sub,jF]
 | .bool,_,_=>by simp only[Sh.sub,jF]
 | .str,_,_=>by simp only[Sh.sub,jF]
 | .sl s,n,d=>by simp only[Sh.sub,jF];exact Fs s _ (pP r n _ (by omega) d)
 | .st fs,n,d=>by simp only[Sh.sub,jF];exact nE fs _ (pP r n _ (by omega) d)
theorem nE{r:Sh}:∀(fs:List Sh) (n:Nat),jF r n→iN (Sh.subs r fs) n
 |[],_,_=>by simp only[Sh.subs,iN]
 |s::l,n,d=>by simp only[Sh.subs,iN];exact⟨Fs s n d,nE l n d⟩
end
theorem Fq{fs:List Sh}{k:Nat}:∀n,jF (ng (.st fs) k n) n
 |0=>by simp only[ng,jF]
 |n+1=>by
  simp only[ng,Sh.sub,jF]
  exact nE fs _ (Fq n)
end Go.En
namespace Go.En
open Go.RowKit Go.WideShapes
section
variable {H:Type} {enc:TypeId×Value→H} {P:Program} {w:World} {spare:Nat→Bool} {held:Bool}
theorem pz{M:Addr→Option Value}{x:PV}{v:Value}(h:tj M x [v])(h1:x.cells=[x]):bu M x v:=by
 have:=(h.2 0 (by simp)).1
 rw[h1] at this
 simpa using this
theorem azE{S:Nat→Sh}{t:TypeId}{v:Value}{d:DataW H}{ps:List MemPlace}{r:Reach}{base:Nat}(hs:∀n,wY P (S n) t=true)(hd:∀n,jF (S n) n)(hv:Value.okWide P w r base t v)(h:DataW.Trod enc P w 0 spare held t v d ps):
  ∃n x,Is (S n) x∧bu w.cell? x v:=by
 obtain⟨fuel,h⟩:=h
 obtain⟨x,h1,h2⟩:=GS fuel (S fuel) t _ d ps (hd fuel) (hs fuel) h
 refine⟨fuel,x,h1, ?_⟩
 have hs:=hs fuel
 generalize S fuel=s at hs h1
 cases s with
 |int k=>
  simp only[wY] at hs
  split at hs
  ·rename_i k' hu
   obtain⟨n,rfl⟩:=okWide_int hu hv
   obtain⟨m,rfl,_⟩:=h1
   exact pz h2 rfl
  ·cases hs
 |bool=>
  simp only[wY] at hs
  split at hs
  ·rename_i hu
   obtain⟨n,rfl⟩:=okWide_bool hu hv
   obtain⟨m,rfl⟩:=h1
   exact pz h2 rfl
  ·cases hs
 |str=>
  simp only[wY] at hs
  split at hs
  ·rename_i hu
   obtain⟨n,rfl⟩:=okWide_string hu hv
   obtain⟨m,rfl,_⟩:=h1
   exact pz h2 rfl
  ·cases hs
 |sl s=>
  simp only[wY] at hs
  split at hs
  ·rename_i e hu
   obtain⟨a,l,c,rfl⟩:=okWide_slice hu hv
   obtain⟨m,rfl,_⟩:=h1
   exact pz h2 rfl
  ·cases hs
 |st fs=>
  simp only[wY] at hs
  split at hs
  ·rename_i e hu
   obtain⟨cs,rfl,_⟩:=okWide_struct hu hv
   obtain⟨m,rfl,_⟩:=h1
   have hl:cs.size=m.length:=by have:=h2.1;simp at this;exact this.symm
   refine .agg _ _ hl (fun k hk=> ?_)
   have h3:=(h2.2 k (by rw[←h2.1];exact hk)).1
   have e:(Value.agg cs).cells.toList.getD k Go.undef=cs.getD k Go.undef:=by
    simp[Value.cells,List.getD_eq_getElem?_getD,Array.getD_eq_getD_getElem?]
   rw[e] at h3
   exact h3
  ·cases hs
 |bot n=>exact h1.elim
end
def Cx.all(L:ct)(w:World):Cx:=⟨w.cell?,fun _=>.none,fun _=>none,fun _=>none,L⟩
theorem ahw{L:ct}{fresh:Nat→Bool}{P:Program}{f:Nat}{xs:List PV}{vs:Array Value}{w:World}{b:Bool}(aV:dq L fresh P f (xs.map PV.up) [] (.p (.bool b),[]))(A9:zi (Cx.all L w))(hs:vs.size=xs.length)(hr:∀k,k<xs.length→bu w.cell? (xs.getD k .nils) (vs.getD k Go.undef)):
  Calls P f vs w fun e w'=>e=.returned (.bool b)∧Below w.heap.size w w':=by
 have hm:Mem ⟨w,j8 (Cx.all L w) [],w.cell?⟩ (Cx.all L w) [] w:=
  ⟨fun id aH=>by simp at aH,fun _ _ e=>e,fun _ _ e=>.inr (.inr e),fun id B aH=>by simp at aH,fun i j B hi=>by simp at hi,fun id B aH=>by simp at aH,(fun B o e=>by rcases e with e|⟨_,_,e,_⟩<;>cases e),(fun B o e=>by rcases e with e|⟨_,_,e,_⟩<;>cases e),fun id r b aH=>by simp at aH,⟨rfl,rfl,rfl,Nat.le_refl _,fun _ _ _=>rfl⟩,A9⟩
 refine(aV.calls w (Cx.all L w) vs rfl hm (by simpa using hs) (fun k hk=> ?_)).mono fun e w' he=> ?_
 ·have bT:k<xs.length:=by simpa using hk
  have e:(xs.map PV.up).getD k .undef=(xs.getD k .nils).up:=by simp[List.getD_eq_getElem?_getD,bT]
  rw[e]
  exact GP (hr k bT)
 ·cases e with
  |returned u=>
   obtain⟨C',_,_,h1,h2,_⟩:=he
   exact⟨by rw[fN h2],h1.fr.os,h1.fr.tape,h1.fr.output,h1.fr.size,fun k hk=>h1.fr.block k hk pG⟩
  |panicked _=>exact he.elim
  |outgrown=>exact he.elim
end Go.En
