/- Part of the proof of CallingFills: engine, contracts or law, joined by a program from the texts Y4 Y5 Y6 Y7 Y8 Y9 Y11. -/
import Derived.Test.YtlcechkalldhfaaGreatDoorKag
import Derived.Test.YtlcechkalldhfaaGreatDoorKah
import Derived.Test.YtlcechkalldhfaaGreatDoorKai
import Derived.Test.YtlcechkalldhfaaGreatDoorKbd
import Derived.Test.YtlcechkalldhfaaGreatDoorKbe
set_option linter.all false
set_option maxRecDepth 100000
set_option maxHeartbeats 4000000
namespace Go.En.V
open Go.Proofs
theorem SF(N:Nat)(hN:200≤N)(t:Tr)(h:NC t)(hs:∀x∈t.sub,jl x)(hc:∀x∈t.sub,x.kind=1)(fB:t.sub≠[])(yf:t.kind≠24):
  R N 244 [ag (aC t),.map 0,.p .nils] [.map []]=some (.p (.int .u64 (bY t:Nat)),[.map []]):=by
 cases h with
 |con=>simp[aq] at fB
 |var=>simp[aq] at fB
 |un k w z x h1 h2 hk hx=>
  obtain⟨w0,b0,e1,e2,e3,e4,e5,_⟩:=ba (hs x (by simp[aq])) (hc x (by simp[aq]))
  rcases hk with rfl|rfl
  ·have e:bY (.mk 3 w 0 ⟨#[]⟩ 0 z [x])=zu 3 x.width.toNat x.bits.toNat:=rfl
   rw[e,e1,e2,Int.toNat_natCast,Int.toNat_natCast]
   exact NY 3 (by decide) N hN _ x w0 b0 rfl rfl (hc x (by simp[aq])) e2 e1 e3 e4 e5
  ·have e:bY (.mk 4 w 0 ⟨#[]⟩ 0 z [x])=zu 4 x.width.toNat x.bits.toNat:=rfl
   rw[e,e1,e2,Int.toNat_natCast,Int.toNat_natCast]
   exact NY 4 (by decide) N hN _ x w0 b0 rfl rfl (hc x (by simp[aq])) e2 e1 e3 e4 e5
 |bin k w z x y h1 h2 k1 k2 hx hy=>
  obtain⟨w0,b0,e1,e2,e3,e4,e5,_⟩:=ba (hs x (by simp[aq])) (hc x (by simp[aq]))
  obtain⟨w1,b1,d1,d2,d3,d4,d5,_⟩:=ba (hs y (by simp[aq])) (hc y (by simp[aq]))
  obtain rfl:w1=w0:=by omega
  have:k=5∨k=6∨k=7∨k=8∨k=9∨k=10∨k=11∨k=12∨k=13∨k=14∨k=15:=by omega
  rcases this with rfl|rfl|rfl|rfl|rfl|rfl|rfl|rfl|rfl|rfl|rfl
  ·have e:bY (.mk 5 w 0 ⟨#[]⟩ 0 z [x,y])=bF 5 x.width.toNat x.bits.toNat y.bits.toNat:=rfl
   rw[e,e1,e2,d2,Int.toNat_natCast,Int.toNat_natCast,Int.toNat_natCast]
   exact ie 5 (by decide) N hN _ x y w1 b0 b1 rfl rfl (hc x (by simp[aq])) e2 (hc y (by simp[aq])) d2 e1 e3 e4 e5 d5
  ·have e:bY (.mk 6 w 0 ⟨#[]⟩ 0 z [x,y])=bF 6 x.width.toNat x.bits.toNat y.bits.toNat:=rfl
   rw[e,e1,e2,d2,Int.toNat_natCast,Int.toNat_natCast,Int.toNat_natCast]
   exact ie 6 (by decide) N hN _ x y w1 b0 b1 rfl rfl (hc x (by simp[aq])) e2 (hc y (by simp[aq])) d2 e1 e3 e4 e5 d5
  ·have e:bY (.mk 7 w 0 ⟨#[]⟩ 0 z [x,y])=bF 7 x.width.toNat x.bits.toNat y.bits.toNat:=rfl
   rw[e,e1,e2,d2,Int.toNat_natCast,Int.toNat_natCast,Int.toNat_natCast]
   exact ie 7 (by decide) N hN _ x y w1 b0 b1 rfl rfl (hc x (by simp[aq])) e2 (hc y (by simp[aq])) d2 e1 e3 e4 e5 d5
  ·have e:bY (.mk 8 w 0 ⟨#[]⟩ 0 z [x,y])=bF 8 x.width.toNat x.bits.toNat y.bits.toNat:=rfl
   rw[e,e1,e2,d2,Int.toNat_natCast,Int.toNat_natCast,Int.toNat_natCast]
   exact ie 8 (by decide) N hN _ x y w1 b0 b1 rfl rfl (hc x (by simp[aq])) e2 (hc y (by simp[aq])) d2 e1 e3 e4 e5 d5
  ·have e:bY (.mk 9 w 0 ⟨#[]⟩ 0 z [x,y])=bF 9 x.width.toNat x.bits.toNat y.bits.toNat:=rfl
   rw[e,e1,e2,d2,Int.toNat_natCast,Int.toNat_natCast,Int.toNat_natCast]
   exact ie 9 (by decide) N hN _ x y w1 b0 b1 rfl rfl (hc x (by simp[aq])) e2 (hc y (by simp[aq])) d2 e1 e3 e4 e5 d5
  ·have e:bY (.mk 10 w 0 ⟨#[]⟩ 0 z [x,y])=bF 10 x.width.toNat x.bits.toNat y.bits.toNat:=rfl
   rw[e,e1,e2,d2,Int.toNat_natCast,Int.toNat_natCast,Int.toNat_natCast]
   exact ie 10 (by decide) N hN _ x y w1 b0 b1 rfl rfl (hc x (by simp[aq])) e2 (hc y (by simp[aq])) d2 e1 e3 e4 e5 d5
  ·have e:bY (.mk 11 w 0 ⟨#[]⟩ 0 z [x,y])=bF 11 x.width.toNat x.bits.toNat y.bits.toNat:=rfl
   rw[e,e1,e2,d2,Int.toNat_natCast,Int.toNat_natCast,Int.toNat_natCast]
   exact ie 11 (by decide) N hN _ x y w1 b0 b1 rfl rfl (hc x (by simp[aq])) e2 (hc y (by simp[aq])) d2 e1 e3 e4 e5 d5
  ·have e:bY (.mk 12 w 0 ⟨#[]⟩ 0 z [x,y])=bF 12 x.width.toNat x.bits.toNat y.bits.toNat:=rfl
   rw[e,e1,e2,d2,Int.toNat_natCast,Int.toNat_natCast,Int.toNat_natCast]
   exact ie 12 (by decide) N hN _ x y w1 b0 b1 rfl rfl (hc x (by simp[aq])) e2 (hc y (by simp[aq])) d2 e1 e3 e4 e5 d5
  ·have e:bY (.mk 13 w 0 ⟨#[]⟩ 0 z [x,y])=bF 13 x.width.toNat x.bits.toNat y.bits.toNat:=rfl
   rw[e,e1,e2,d2,Int.toNat_natCast,Int.toNat_natCast,Int.toNat_natCast]
   exact ie 13 (by decide) N hN _ x y w1 b0 b1 rfl rfl (hc x (by simp[aq])) e2 (hc y (by simp[aq])) d2 e1 e3 e4 e5 d5
  ·have e:bY (.mk 14 w 0 ⟨#[]⟩ 0 z [x,y])=bF 14 x.width.toNat x.bits.toNat y.bits.toNat:=rfl
   rw[e,e1,e2,d2,Int.toNat_natCast,Int.toNat_natCast,Int.toNat_natCast]
   exact ie 14 (by decide) N hN _ x y w1 b0 b1 rfl rfl (hc x (by simp[aq])) e2 (hc y (by simp[aq])) d2 e1 e3 e4 e5 d5
  ·have e:bY (.mk 15 w 0 ⟨#[]⟩ 0 z [x,y])=bF 15 x.width.toNat x.bits.toNat y.bits.toNat:=rfl
   rw[e,e1,e2,d2,Int.toNat_natCast,Int.toNat_natCast,Int.toNat_natCast]
   exact ie 15 (by decide) N hN _ x y w1 b0 b1 rfl rfl (hc x (by simp[aq])) e2 (hc y (by simp[aq])) d2 e1 e3 e4 e5 d5
 |cmp k z x y k1 k2 hy=>
  obtain⟨w0,b0,e1,e2,e3,e4,e5,_⟩:=ba (hs x (by simp[aq])) (hc x (by simp[aq]))
  obtain⟨w1,b1,d1,d2,d3,d4,d5,_⟩:=ba (hs y (by simp[aq])) (hc y (by simp[aq]))
  obtain rfl:w1=w0:=by omega
  have:k=16∨k=17∨k=18:=by omega
  rcases this with rfl|rfl|rfl
  ·have e:bY (.mk 16 1 0 ⟨#[]⟩ 0 z [x,y])=bF 16 x.width.toNat x.bits.toNat y.bits.toNat:=rfl
   rw[e,e1,e2,d2,Int.toNat_natCast,Int.toNat_natCast,Int.toNat_natCast]
   exact ie 16 (by decide) N hN _ x y w1 b0 b1 rfl rfl (hc x (by simp[aq])) e2 (hc y (by simp[aq])) d2 e1 e3 e4 e5 d5
  ·have e:bY (.mk 17 1 0 ⟨#[]⟩ 0 z [x,y])=bF 17 x.width.toNat x.bits.toNat y.bits.toNat:=rfl
   rw[e,e1,e2,d2,Int.toNat_natCast,Int.toNat_natCast,Int.toNat_natCast]
   exact ie 17 (by decide) N hN _ x y w1 b0 b1 rfl rfl (hc x (by simp[aq])) e2 (hc y (by simp[aq])) d2 e1 e3 e4 e5 d5
  ·have e:bY (.mk 18 1 0 ⟨#[]⟩ 0 z [x,y])=bF 18 x.width.toNat x.bits.toNat y.bits.toNat:=rfl
   rw[e,e1,e2,d2,Int.toNat_natCast,Int.toNat_natCast,Int.toNat_natCast]
   exact ie 18 (by decide) N hN _ x y w1 b0 b1 rfl rfl (hc x (by simp[aq])) e2 (hc y (by simp[aq])) d2 e1 e3 e4 e5 d5
 |ite w z x y v h1 h2 hx hy hv=>
  obtain⟨w0,b0,e1,e2,e3,e4,e5,_⟩:=ba (hs x (by simp[aq])) (hc x (by simp[aq]))
  obtain⟨w1,b1,d1,d2,d3,d4,d5,_⟩:=ba (hs y (by simp[aq])) (hc y (by simp[aq]))
  obtain⟨w2,b2,f1,f2,f3,f4,f5,_⟩:=ba (hs v (by simp[aq])) (hc v (by simp[aq]))
  obtain rfl:w0=1:=by omega
  have e:bY (.mk 19 w 0 ⟨#[]⟩ 0 z [x,y,v])=if x.bits.toNat=1 then y.bits.toNat else v.bits.toNat:=rfl
  rw[e,e2,d2,f2,Int.toNat_natCast,Int.toNat_natCast,Int.toNat_natCast]
  exact SE N hN _ x y v 1 b0 b1 b2 rfl rfl (hc x (by simp[aq])) e2 (hc y (by simp[aq])) d2 (hc v (by simp[aq])) f2 e1 (by omega)
 |cat w z x y h1 h2 hx hy hw=>
  obtain⟨w0,b0,e1,e2,e3,e4,e5,_⟩:=ba (hs x (by simp[aq])) (hc x (by simp[aq]))
  obtain⟨w1,b1,d1,d2,d3,d4,d5,_⟩:=ba (hs y (by simp[aq])) (hc y (by simp[aq]))
  have e:bY (.mk 20 w 0 ⟨#[]⟩ 0 z [x,y])=x.bits.toNat*2^y.width.toNat+y.bits.toNat:=rfl
  rw[e,e2,d1,d2,Int.toNat_natCast,Int.toNat_natCast,Int.toNat_natCast]
  exact SD N hN _ x y w0 b0 b1 rfl rfl (hc x (by simp[aq])) e2 (hc y (by simp[aq])) d2 e1 w1 d1 e3 d3 (by omega) e5 d5
 |ext w l z x h1 h2 hl hx tt hw=>
  obtain⟨w0,b0,e1,e2,e3,e4,e5,_⟩:=ba (hs x (by simp[aq])) (hc x (by simp[aq]))
  obtain⟨w,rfl⟩:∃n:Nat,w=n:=⟨w.toNat,by omega⟩
  obtain⟨l,rfl⟩:∃n:Nat,l=n:=⟨l.toNat,by omega⟩
  have e:bY (.mk 21 w 0 ⟨#[]⟩ l z [x])=x.bits.toNat/2^(l:Int).toNat % 2^(w:Int).toNat:=rfl
  rw[e,e2,Int.toNat_natCast,Int.toNat_natCast,Int.toNat_natCast]
  exact SC N hN _ x w0 b0 rfl rfl (hc x (by simp[aq])) e2 e1 l w rfl rfl e3 e4 e5 (by omega) (by omega)
 |wid k w z x h1 h2 hk hx=>
  obtain⟨w0,b0,e1,e2,e3,e4,e5,_⟩:=ba (hs x (by simp[aq])) (hc x (by simp[aq]))
  obtain⟨w,rfl⟩:∃n:Nat,w=n:=⟨w.toNat,by omega⟩
  rcases hk with rfl|rfl
  ·have e:bY (.mk 22 w 0 ⟨#[]⟩ 0 z [x])=vx x.width.toNat x.bits.toNat (w:Int).toNat false:=rfl
   rw[e,e1,e2,Int.toNat_natCast,Int.toNat_natCast,Int.toNat_natCast]
   exact NX false N hN _ x w0 b0 rfl rfl (hc x (by simp[aq])) e2 e1 w rfl e3 (by omega) (by omega) e5
  ·have e:bY (.mk 23 w 0 ⟨#[]⟩ 0 z [x])=vx x.width.toNat x.bits.toNat (w:Int).toNat true:=rfl
   rw[e,e1,e2,Int.toNat_natCast,Int.toNat_natCast,Int.toNat_natCast]
   exact NX true N hN _ x w0 b0 rfl rfl (hc x (by simp[aq])) e2 e1 w rfl e3 (by omega) (by omega) e5
 |ld=>exact absurd rfl yf
theorem vZ(N:Nat)(hN:2100≤N)(t:Tr)(h:NC t)(hs:∀x∈t.sub,jl x)(hc:∀x∈t.sub,x.kind=1)(fB:t.sub≠[])(yf:t.kind≠24):
  R N 180 [ag (aC t),.p .nils,.p .nils] []=some (.p (.int .u64 (bY t:Nat)),[]):=by
 cases h with
 |con=>simp[aq] at fB
 |var=>simp[aq] at fB
 |un k w z x h1 h2 hk hx=>
  obtain⟨w0,b0,e1,e2,e3,e4,e5,_⟩:=ba (hs x (by simp[aq])) (hc x (by simp[aq]))
  rcases hk with rfl|rfl
  ·have e:bY (.mk 3 w 0 ⟨#[]⟩ 0 z [x])=zu 3 x.width.toNat x.bits.toNat:=rfl
   rw[e,e1,e2,Int.toNat_natCast,Int.toNat_natCast]
   exact IX 3 (by decide) N hN _ x w0 b0 rfl rfl (hc x (by simp[aq])) e2 e1 e3 e4 e5
  ·have e:bY (.mk 4 w 0 ⟨#[]⟩ 0 z [x])=zu 4 x.width.toNat x.bits.toNat:=rfl
   rw[e,e1,e2,Int.toNat_natCast,Int.toNat_natCast]
   exact IX 4 (by decide) N hN _ x w0 b0 rfl rfl (hc x (by simp[aq])) e2 e1 e3 e4 e5
 |bin k w z x y h1 h2 k1 k2 hx hy=>
  obtain⟨w0,b0,e1,e2,e3,e4,e5,_⟩:=ba (hs x (by simp[aq])) (hc x (by simp[aq]))
  obtain⟨w1,b1,d1,d2,d3,d4,d5,_⟩:=ba (hs y (by simp[aq])) (hc y (by simp[aq]))
  obtain rfl:w1=w0:=by omega
  have:k=5∨k=6∨k=7∨k=8∨k=9∨k=10∨k=11∨k=12∨k=13∨k=14∨k=15:=by omega
  rcases this with rfl|rfl|rfl|rfl|rfl|rfl|rfl|rfl|rfl|rfl|rfl
  ·have e:bY (.mk 5 w 0 ⟨#[]⟩ 0 z [x,y])=bF 5 x.width.toNat x.bits.toNat y.bits.toNat:=rfl
   rw[e,e1,e2,d2,Int.toNat_natCast,Int.toNat_natCast,Int.toNat_natCast]
   exact fy 5 (by decide) N hN _ x y w1 b0 b1 rfl rfl (hc x (by simp[aq])) e2 (hc y (by simp[aq])) d2 e1 e3 e4 e5 d5
  ·have e:bY (.mk 6 w 0 ⟨#[]⟩ 0 z [x,y])=bF 6 x.width.toNat x.bits.toNat y.bits.toNat:=rfl
   rw[e,e1,e2,d2,Int.toNat_natCast,Int.toNat_natCast,Int.toNat_natCast]
   exact fy 6 (by decide) N hN _ x y w1 b0 b1 rfl rfl (hc x (by simp[aq])) e2 (hc y (by simp[aq])) d2 e1 e3 e4 e5 d5
  ·have e:bY (.mk 7 w 0 ⟨#[]⟩ 0 z [x,y])=bF 7 x.width.toNat x.bits.toNat y.bits.toNat:=rfl
   rw[e,e1,e2,d2,Int.toNat_natCast,Int.toNat_natCast,Int.toNat_natCast]
   exact fy 7 (by decide) N hN _ x y w1 b0 b1 rfl rfl (hc x (by simp[aq])) e2 (hc y (by simp[aq])) d2 e1 e3 e4 e5 d5
  ·have e:bY (.mk 8 w 0 ⟨#[]⟩ 0 z [x,y])=bF 8 x.width.toNat x.bits.toNat y.bits.toNat:=rfl
   rw[e,e1,e2,d2,Int.toNat_natCast,Int.toNat_natCast,Int.toNat_natCast]
   exact fy 8 (by decide) N hN _ x y w1 b0 b1 rfl rfl (hc x (by simp[aq])) e2 (hc y (by simp[aq])) d2 e1 e3 e4 e5 d5
  ·have e:bY (.mk 9 w 0 ⟨#[]⟩ 0 z [x,y])=bF 9 x.width.toNat x.bits.toNat y.bits.toNat:=rfl
   rw[e,e1,e2,d2,Int.toNat_natCast,Int.toNat_natCast,Int.toNat_natCast]
   exact fy 9 (by decide) N hN _ x y w1 b0 b1 rfl rfl (hc x (by simp[aq])) e2 (hc y (by simp[aq])) d2 e1 e3 e4 e5 d5
  ·have e:bY (.mk 10 w 0 ⟨#[]⟩ 0 z [x,y])=bF 10 x.width.toNat x.bits.toNat y.bits.toNat:=rfl
   rw[e,e1,e2,d2,Int.toNat_natCast,Int.toNat_natCast,Int.toNat_natCast]
   exact fy 10 (by decide) N hN _ x y w1 b0 b1 rfl rfl (hc x (by simp[aq])) e2 (hc y (by simp[aq])) d2 e1 e3 e4 e5 d5
  ·have e:bY (.mk 11 w 0 ⟨#[]⟩ 0 z [x,y])=bF 11 x.width.toNat x.bits.toNat y.bits.toNat:=rfl
   rw[e,e1,e2,d2,Int.toNat_natCast,Int.toNat_natCast,Int.toNat_natCast]
   exact fy 11 (by decide) N hN _ x y w1 b0 b1 rfl rfl (hc x (by simp[aq])) e2 (hc y (by simp[aq])) d2 e1 e3 e4 e5 d5
  ·have e:bY (.mk 12 w 0 ⟨#[]⟩ 0 z [x,y])=bF 12 x.width.toNat x.bits.toNat y.bits.toNat:=rfl
   rw[e,e1,e2,d2,Int.toNat_natCast,Int.toNat_natCast,Int.toNat_natCast]
   exact fy 12 (by decide) N hN _ x y w1 b0 b1 rfl rfl (hc x (by simp[aq])) e2 (hc y (by simp[aq])) d2 e1 e3 e4 e5 d5
  ·have e:bY (.mk 13 w 0 ⟨#[]⟩ 0 z [x,y])=bF 13 x.width.toNat x.bits.toNat y.bits.toNat:=rfl
   rw[e,e1,e2,d2,Int.toNat_natCast,Int.toNat_natCast,Int.toNat_natCast]
   exact fy 13 (by decide) N hN _ x y w1 b0 b1 rfl rfl (hc x (by simp[aq])) e2 (hc y (by simp[aq])) d2 e1 e3 e4 e5 d5
  ·have e:bY (.mk 14 w 0 ⟨#[]⟩ 0 z [x,y])=bF 14 x.width.toNat x.bits.toNat y.bits.toNat:=rfl
   rw[e,e1,e2,d2,Int.toNat_natCast,Int.toNat_natCast,Int.toNat_natCast]
   exact fy 14 (by decide) N hN _ x y w1 b0 b1 rfl rfl (hc x (by simp[aq])) e2 (hc y (by simp[aq])) d2 e1 e3 e4 e5 d5
  ·have e:bY (.mk 15 w 0 ⟨#[]⟩ 0 z [x,y])=bF 15 x.width.toNat x.bits.toNat y.bits.toNat:=rfl
   rw[e,e1,e2,d2,Int.toNat_natCast,Int.toNat_natCast,Int.toNat_natCast]
   exact fy 15 (by decide) N hN _ x y w1 b0 b1 rfl rfl (hc x (by simp[aq])) e2 (hc y (by simp[aq])) d2 e1 e3 e4 e5 d5
 |cmp k z x y k1 k2 hy=>
  obtain⟨w0,b0,e1,e2,e3,e4,e5,_⟩:=ba (hs x (by simp[aq])) (hc x (by simp[aq]))
  obtain⟨w1,b1,d1,d2,d3,d4,d5,_⟩:=ba (hs y (by simp[aq])) (hc y (by simp[aq]))
  obtain rfl:w1=w0:=by omega
  have:k=16∨k=17∨k=18:=by omega
  rcases this with rfl|rfl|rfl
  ·have e:bY (.mk 16 1 0 ⟨#[]⟩ 0 z [x,y])=bF 16 x.width.toNat x.bits.toNat y.bits.toNat:=rfl
   rw[e,e1,e2,d2,Int.toNat_natCast,Int.toNat_natCast,Int.toNat_natCast]
   exact fy 16 (by decide) N hN _ x y w1 b0 b1 rfl rfl (hc x (by simp[aq])) e2 (hc y (by simp[aq])) d2 e1 e3 e4 e5 d5
  ·have e:bY (.mk 17 1 0 ⟨#[]⟩ 0 z [x,y])=bF 17 x.width.toNat x.bits.toNat y.bits.toNat:=rfl
   rw[e,e1,e2,d2,Int.toNat_natCast,Int.toNat_natCast,Int.toNat_natCast]
   exact fy 17 (by decide) N hN _ x y w1 b0 b1 rfl rfl (hc x (by simp[aq])) e2 (hc y (by simp[aq])) d2 e1 e3 e4 e5 d5
  ·have e:bY (.mk 18 1 0 ⟨#[]⟩ 0 z [x,y])=bF 18 x.width.toNat x.bits.toNat y.bits.toNat:=rfl
   rw[e,e1,e2,d2,Int.toNat_natCast,Int.toNat_natCast,Int.toNat_natCast]
   exact fy 18 (by decide) N hN _ x y w1 b0 b1 rfl rfl (hc x (by simp[aq])) e2 (hc y (by simp[aq])) d2 e1 e3 e4 e5 d5
 |ite w z x y v h1 h2 hx hy hv=>
  obtain⟨w0,b0,e1,e2,e3,e4,e5,_⟩:=ba (hs x (by simp[aq])) (hc x (by simp[aq]))
  obtain⟨w1,b1,d1,d2,d3,d4,d5,_⟩:=ba (hs y (by simp[aq])) (hc y (by simp[aq]))
  obtain⟨w2,b2,f1,f2,f3,f4,f5,_⟩:=ba (hs v (by simp[aq])) (hc v (by simp[aq]))
  obtain rfl:w0=1:=by omega
  have e:bY (.mk 19 w 0 ⟨#[]⟩ 0 z [x,y,v])=if x.bits.toNat=1 then y.bits.toNat else v.bits.toNat:=rfl
  rw[e,e2,d2,f2,Int.toNat_natCast,Int.toNat_natCast,Int.toNat_natCast]
  exact NW N hN _ x y v 1 b0 b1 b2 rfl rfl (hc x (by simp[aq])) e2 (hc y (by simp[aq])) d2 (hc v (by simp[aq])) f2 e1 (by omega)
 |cat w z x y h1 h2 hx hy hw=>
  obtain⟨w0,b0,e1,e2,e3,e4,e5,_⟩:=ba (hs x (by simp[aq])) (hc x (by simp[aq]))
  obtain⟨w1,b1,d1,d2,d3,d4,d5,_⟩:=ba (hs y (by simp[aq])) (hc y (by simp[aq]))
  have e:bY (.mk 20 w 0 ⟨#[]⟩ 0 z [x,y])=x.bits.toNat*2^y.width.toNat+y.bits.toNat:=rfl
  rw[e,e2,d1,d2,Int.toNat_natCast,Int.toNat_natCast,Int.toNat_natCast]
  exact NV N hN _ x y w0 b0 b1 rfl rfl (hc x (by simp[aq])) e2 (hc y (by simp[aq])) d2 e1 w1 d1 e3 d3 (by omega) e5 d5
 |ext w l z x h1 h2 hl hx tt hw=>
  obtain⟨w0,b0,e1,e2,e3,e4,e5,_⟩:=ba (hs x (by simp[aq])) (hc x (by simp[aq]))
  obtain⟨w,rfl⟩:∃n:Nat,w=n:=⟨w.toNat,by omega⟩
  obtain⟨l,rfl⟩:∃n:Nat,l=n:=⟨l.toNat,by omega⟩
  have e:bY (.mk 21 w 0 ⟨#[]⟩ l z [x])=x.bits.toNat/2^(l:Int).toNat % 2^(w:Int).toNat:=rfl
  rw[e,e2,Int.toNat_natCast,Int.toNat_natCast,Int.toNat_natCast]
  exact NU N hN _ x w0 b0 rfl rfl (hc x (by simp[aq])) e2 e1 l w rfl rfl e3 e4 e5 (by omega) (by omega)
 |wid k w z x h1 h2 hk hx=>
  obtain⟨w0,b0,e1,e2,e3,e4,e5,_⟩:=ba (hs x (by simp[aq])) (hc x (by simp[aq]))
  obtain⟨w,rfl⟩:∃n:Nat,w=n:=⟨w.toNat,by omega⟩
  rcases hk with rfl|rfl
  ·have e:bY (.mk 22 w 0 ⟨#[]⟩ 0 z [x])=vx x.width.toNat x.bits.toNat (w:Int).toNat false:=rfl
   rw[e,e1,e2,Int.toNat_natCast,Int.toNat_natCast,Int.toNat_natCast]
   exact IW false N hN _ x w0 b0 rfl rfl (hc x (by simp[aq])) e2 e1 w rfl e3 (by omega) (by omega) e5
  ·have e:bY (.mk 23 w 0 ⟨#[]⟩ 0 z [x])=vx x.width.toNat x.bits.toNat (w:Int).toNat true:=rfl
   rw[e,e1,e2,Int.toNat_natCast,Int.toNat_natCast,Int.toNat_natCast]
   exact IW true N hN _ x w0 b0 rfl rfl (hc x (by simp[aq])) e2 e1 w rfl e3 (by omega) (by omega) e5
 |ld=>exact absurd rfl yf
theorem aM(t:Tr):(bh t).kind=t.kind:=by cases t;rfl
theorem aL(t:Tr):(bh t).width=t.width:=by cases t;rfl
theorem bH(t:Tr):(bh t).bits=t.bits:=by cases t;rfl
theorem bZ(t:Tr):(bh t).low=t.low:=by cases t;rfl
theorem SK(t:Tr):(bh t).name=t.name:=by cases t;rfl
theorem fo(t:Tr):(bh t).sub=t.sub.map bh:=by rw[jI];rfl
theorem N2(l:List Tr)(i:Int):(nth (l.map bh) i).width=(nth l i).width∧(nth (l.map bh) i).bits=(nth l i).bits∧(nth (l.map bh) i).kind=(nth l i).kind∧(nth (l.map bh) i).low=(nth l i).low:=by
 unfold nth
 by_cases h:i.toNat<l.length
 ·simp[h,aL,bH,aM,bZ]
 ·simp[h]
theorem rU(t:Tr):bY (bh t)=bY t:=by
 unfold bY
 simp only[aM,fo,aL,bZ,(N2 _ _).1,(N2 _ _).2.1]
theorem cd(t:Tr)(x:Int):bR (bh t) x=bR t x:=by unfold bR;rw[aM,bH]
theorem VQ:∀t:Tr,zj (bh t):=by
 have main:∀n:Nat,∀t:Tr,aF t≤n→zj (bh t):=by
  intro n
  induction n with
  |zero=>intro t h;have:=bz t;omega
  |succ n ih=>
   intro t h
   rw[ll,fo]
   refine⟨by rw[jI];rfl,fun x hx=> ?_⟩
   obtain⟨y,hy,rfl⟩:=List.mem_map.1 hx
   exact ih y (by have:=kG hy;have:=bz t;omega)
 exact fun t=>main _ t (Nat.le_refl _)
theorem bL:∀a b:Tr,aI (bh a) (bh b)=aI a b:=by
 have main:∀n:Nat,∀a b:Tr,aF a≤n→aI (bh a) (bh b)=aI a b:=by
  intro n
  induction n with
  |zero=>intro a b h;have:=bz a;omega
  |succ n ih=>
   intro a b h
   rw[oh,oh]
   have e1:mr (bh a) (bh b)=mr a b:=by unfold mr;simp only[aM,aL,bH,SK,bZ]
   rw[e1,fo,fo]
   congr 1
   have hs:bM a.sub≤n:=by have:=bz a;omega
   generalize a.sub=l at hs
   generalize b.sub=q
   induction l generalizing q with
   |nil=>cases q<;>simp[iS]
   |cons x l il=>
    cases q with
    |nil=>simp[iS]
    |cons y q=>
     simp only[bM] at hs
     simp only[List.map_cons,iS]
     rw[ih x y (by omega),il (by omega) q]
 exact fun a b=>main _ a b (Nat.le_refl _)
theorem SJ:∀t:Tr,aF (bh t)=aF t∧eg (bh t)=eg t:=by
 have main:∀n:Nat,∀t:Tr,aF t≤n→aF (bh t)=aF t∧eg (bh t)=eg t:=by
  intro n
  induction n with
  |zero=>intro t h;have:=bz t;omega
  |succ n ih=>
   intro t h
   rw[bz (bh t),bz t,eT (bh t),eT t,fo]
   have hs:bM t.sub≤n:=by have:=bz t;omega
   have:∀l:List Tr,bM l≤n→bM (l.map bh)=bM l∧dt (l.map bh)=dt l:=by
    intro l
    induction l with
    |nil=>intro _;exact⟨rfl,rfl⟩
    |cons x l il=>
     intro hl
     simp only[bM] at hl
     simp only[List.map_cons,bM,dt]
     have h1:=ih x (by omega)
     have h2:=il (by omega)
     omega
   have:=this _ hs
   omega
 exact fun t=>main _ t (Nat.le_refl _)
theorem NC.z(k w b n l z s)(z':Bool)(h:NC (.mk k w b n l z s)):NC (.mk k w b n l z' s):=by
 cases h with
 |con _ _ _ h1 h2 h3=>exact .con _ _ _ h1 h2 h3
 |var _ _ _ h1 h2 h3=>exact .var _ _ _ h1 h2 h3
 |un _ _ _ _ h1 h2 h3 h4=>exact .un _ _ _ _ h1 h2 h3 h4
 |bin _ _ _ _ _ h1 h2 h3 h4 h5 h6=>exact .bin _ _ _ _ _ h1 h2 h3 h4 h5 h6
 |cmp _ _ _ _ h1 h2 h3=>exact .cmp _ _ _ _ h1 h2 h3
 |ite _ _ _ _ _ h1 h2 h3 h4 h5=>exact .ite _ _ _ _ _ h1 h2 h3 h4 h5
 |cat _ _ _ _ h1 h2 h3 h4 h5=>exact .cat _ _ _ _ h1 h2 h3 h4 h5
 |ext _ _ _ _ h1 h2 h3 h4 h5 h6=>exact .ext _ _ _ _ h1 h2 h3 h4 h5 h6
 |wid _ _ _ _ h1 h2 h3 h4=>exact .wid _ _ _ _ h1 h2 h3 h4
 |ld _ _ _ h1 h2 h3=>exact .ld _ _ _ h1 h2 h3
theorem sH{f:Tr→Tr}{l:List Tr}{x:Tr}(h:l.map f=[x]):∃a,l=[a]∧f a=x:=by
 match l,h with
 |[a],h=>simp at h;exact⟨a,rfl,h⟩
 |[],h=>simp at h
 |_::_::_,h=>simp at h
theorem NC.of_map{k w b n l z s}(f:Tr→Tr)(hf:∀x∈s,(f x).width=Tr.width x)(h:NC (.mk k w b n l z (s.map f))):NC (.mk k w b n l z s):=by
 generalize hq:s.map f=q at h
 cases h with
 |con _ _ _ h1 h2 h3=>have:=List.map_eq_nil_iff.1 hq;subst this;exact .con _ _ _ h1 h2 h3
 |var _ _ _ h1 h2 h3=>have:=List.map_eq_nil_iff.1 hq;subst this;exact .var _ _ _ h1 h2 h3
 |un _ _ _ _ h1 h2 h3 h4=>
  obtain⟨a,rfl,rfl⟩:=sH hq
  exact .un _ _ _ _ h1 h2 h3 (by rw[←hf a (by simp)];exact h4)
 |bin _ _ _ _ _ h1 h2 h3 h4 h5 h6=>
  match s,hq,hf with
  |[a,b],hq,hf=>
   simp only[List.map_cons,List.map_nil,List.cons.injEq,and_true] at hq
   obtain⟨rfl,rfl⟩:=hq
   exact .bin _ _ _ _ _ h1 h2 h3 h4 (by rw[←hf a (by simp)];exact h5) (by rw[←hf b (by simp)];exact h6)
 |cmp _ _ _ _ h1 h2 h3=>
  match s,hq,hf with
  |[a,b],hq,hf=>
   simp only[List.map_cons,List.map_nil,List.cons.injEq,and_true] at hq
   obtain⟨rfl,rfl⟩:=hq
   exact .cmp _ _ _ _ h1 h2 (by rw[←hf a (by simp),←hf b (by simp)];exact h3)
 |ite _ _ _ _ _ h1 h2 h3 h4 h5=>
  match s,hq,hf with
  |[a,b,c],hq,hf=>
   simp only[List.map_cons,List.map_nil,List.cons.injEq,and_true] at hq
   obtain⟨rfl,rfl,rfl⟩:=hq
   exact .ite _ _ _ _ _ h1 h2 (by rw[←hf a (by simp)];exact h3) (by rw[←hf b (by simp)];exact h4) (by rw[←hf c (by simp)];exact h5)
 |cat _ _ _ _ h1 h2 h3 h4 h5=>
  match s,hq,hf with
  |[a,b],hq,hf=>
   simp only[List.map_cons,List.map_nil,List.cons.injEq,and_true] at hq
   obtain⟨rfl,rfl⟩:=hq
   exact .cat _ _ _ _ h1 h2 (by rw[←hf a (by simp)];exact h3) (by rw[←hf b (by simp)];exact h4) (by rw[←hf a (by simp),←hf b (by simp)];exact h5)
 |ext _ _ _ _ h1 h2 h3 h4 h5 h6=>
  obtain⟨a,rfl,rfl⟩:=sH hq
  have:=hf a (by simp)
  exact .ext _ _ _ _ h1 h2 h3 (by omega) (by omega) (by omega)
 |wid _ _ _ _ h1 h2 h3 h4=>
  obtain⟨a,rfl,rfl⟩:=sH hq
  exact .wid _ _ _ _ h1 h2 h3 (by rw[←hf a (by simp)];exact h4)
 |ld _ _ _ h1 h2 h3=>
  obtain⟨a,rfl,rfl⟩:=sH hq
  exact .ld _ _ _ h1 h2 h3
theorem N3{t:Tr}(h:NC (bh t)):NC t:=by
 rw[jI] at h
 obtain⟨k,w,b,n,l,z,s⟩:=t
 simp only[aZ,bS,fG,g_,cr,aq] at h
 exact(NC.of_map bh (fun x _=>aL x) h).z _ _ _ _ _ _ _ z
theorem VP:∀t:Tr,jl (bh t)→jl t:=by
 have main:∀n:Nat,∀t:Tr,aF t≤n→jl (bh t)→jl t:=by
  intro n
  induction n with
  |zero=>intro t h;have:=bz t;omega
  |succ n ih=>
   intro t h hw
   have lr:=(iK _).1 hw
   rw[bH,fo] at lr
   refine(iK t).2 ⟨N3 lr.1,lr.2.1,fun x hx=>ih x (by have:=kG hx;have:=bz t;omega) (lr.2.2 _ (List.mem_map.2 ⟨x,hx,rfl⟩))⟩
 exact fun t=>main _ t (Nat.le_refl _)
theorem skolem{α:Type}[Inhabited α](l:List α)(P:α→α→Prop)(h:∀x∈l,∃y,P x y):∃f:α→α,∀x∈l,P x (f x):=by
 classical
 refine⟨fun x=>if h:∃y,P x y then h.choose else x,fun x hx=> ?_⟩
 have hy:=h x hx
 simp only[hy,dif_pos]
 exact hy.choose_spec
def lu:List (Bool×Tr)→List (Bool×Tr)→Prop
 |[],[]=>True
 |a::l,b::m=>(a.1=b.1∧(a.1=true→bh a.2=b.2))∧lu l m
 |_,_=>False
theorem cD{t t':Tr}(ht:bh t'=t):∀l m:List (Bool×Tr),lu l m→bh (pick t' l)=pick t m
 |[],[],_=>ht
 |(c,o)::l,(c',o')::m,h=>by
  simp only[lu] at h
  obtain⟨⟨h1,h2⟩,h3⟩:=h
  subst h1
  unfold pick
  by_cases hc:c=true
  ·rw[if_pos hc,if_pos hc];exact h2 hc
  ·rw[if_neg hc,if_neg hc];exact cD ht l m h3
 |[],_::_,h=>h.elim
 |_::_,[],h=>h.elim
def dv(n:Nat)(t:Tr)(c:PV)(o:Bool×Tr):Prop:=
 ∃f abY,c=.fn f abY∧T.muts f=false∧(abY=[]∨(∃a,abY=[.ptr a 0])∨(∃a b,abY=[.ptr a 0,.ptr b 0]))∧
  R n f (ag (aC t)::abY.map .p) []=some (.tup [ag (aC o.2),ab o.1],[])
def az(t:Tr)(f:Tr→Tr):Tr:=.mk t.kind t.width t.bits t.name t.low false (t.sub.map f)
theorem Tq(N:Nat)(hN:2000≤N)(t:Tr)(f:Tr→Tr)(v:Int)(hl:t.sub.length≤1000)
  (hf:∀x∈t.sub,R (N-1) 172 [ag (aC x)] []=some (ag (aC (f x)),[]))
  (key:R (N-1) 190 [ag (aC (az t f))] []=some (.tup [ag (aC (bD t.width v)),ab true],[])):
  R N 172 [ag (aC t)] []=some (ag (aC (bD t.width v)),[]):=by
  have aa:rows 172=_:=GH.eq_1
  obtain⟨n,rfl⟩:=up N
  rw[aE 172 Tryz.func172 rfl rfl]
  simp only[Nat.add_sub_cancel] at*
  unfold az at key
  have en:aC (bD t.width v)=[.int .u8 1,.int .i64 t.width,.int .u64 v,.str ⟨#[]⟩,.int .i64 0,.nils]:=by
   unfold bD;rw[bA];rfl
  rw[bA,en] at key
  rw[en]
  simp[aa,ag] at key
  simp[aa]
  rw[abC t.sub.length (fun k=>⟨[(1,.ref 0 0),(2,.ref 1 0),(3,.arr 2 k 0 k),(13,.p (fg t.z (t.sub.map aT))),(14,ai t.sub.length),(15,ai k)],
     [bx (aC t),.box [.p (.int .u8 0),ai 0,.p (.int .u64 0),.p (.str ⟨#[]⟩),ai 0,.p .nils],.arr k 6 false (((t.sub.take k).map f).map aT)]⟩) (by omega) (by simp[aa]) (by
     intro k h K
     have w1:=aA h (by omega)
     obtain⟨x,hx,_,hm⟩:=ay h
     have bI:=hf x hm
     have b1:(k+1)*72≤1099511627776:=by omega
     have b2:k+1≤1099511627776:=by omega
     have e:(t.sub.take (k+1)).map f=(t.sub.take k).map f++[f x]:=by
      rw[List.take_succ_eq_append_getElem h,hx h];simp
     rw[e]
     have hlen:((t.sub.take k).map f).length=k:=by simp;omega
     generalize (t.sub.take k).map f=A at*
     simp[aa,h,hx,bX t.z h,bI,w1,b1,b2,hlen]
     try rfl) (by simp[aa])]
  simp[aa,ae t,key]
theorem LN(t:Tr)(La:List (Bool×Tr)):(La.findIdx? (fun o=>o.1)=none∧pick t La=t)∨∃i:Nat,La.findIdx? (fun o=>o.1)=some i∧pick t La=(nth La (i:Int)).2:=by
 induction La with
 |nil=>exact Or.inl ⟨rfl,rfl⟩
 |cons a l ih=>
  obtain⟨c,o⟩:=a
  cases c with
  |true=>exact Or.inr ⟨0,rfl,rfl⟩
  |false=>
   rcases ih with⟨e1,e2⟩|⟨i,e1,e2⟩
   ·exact Or.inl ⟨by simpa using e1,by simpa [pick] using e2⟩
   ·refine Or.inr ⟨i+1,by simp[List.findIdx?_cons,e1], ?_⟩
    simp only[pick]
    simp[e2,nth]
theorem P'(f:Nat)(c:List PV):(PV.fn f c).cells=[PV.fn f c]:=rfl
theorem Tp(N:Nat)(hN:2000≤N)(t:Tr)(f:Tr→Tr)(C:List PV)(La:List (Bool×Tr))(hl:t.sub.length≤1000)(hLa:La.length≤10)(hC:C.length=La.length)
  (hf:∀x∈t.sub,R (N-1) 172 [.agg ((aC x).map .p)] []=some (.agg ((aC (f x)).map .p),[]))
  (key:R (N-1) 190 [.agg ((aC (az t f)).map .p)] []=some (.tup [.agg ((aC (az t f)).map .p),ab false],[]))
  (hr:R (N-1) 191 [.p (.int .u8 t.kind)] []=some (.p (.sl C),[]))
  (yc:∀k (h:k<C.length),∃o,nth La (k:Int)=o∧dv (N-1) (az t f) C[k] o):
  R N 172 [.agg ((aC t).map .p)] []=some (.agg ((aC (pick (az t f) La)).map .p),[]):=by
  have aa:rows 172=_:=GH.eq_1
  obtain⟨n,rfl⟩:=up N
  rw[aE 172 Tryz.func172 rfl rfl]
  simp only[Nat.add_sub_cancel] at*
  have e0:(aC (az t f)).map AV.p=[.p (.int .u8 t.kind),ai t.width,.p (.int .u64 t.bits),.p (.str t.name),ai t.low,.p (.sl ((t.sub.map f).map aT))]:=by
   unfold az;rw[bA];rfl
  unfold dv ag at yc
  rw[e0] at key yc
  simp[aa,ag] at key
  simp[aa]
  rw[abC t.sub.length (fun k=>⟨[(1,.ref 0 0),(2,.ref 1 0),(3,.arr 2 k 0 k),(13,.p (fg t.z (t.sub.map aT))),(14,ai t.sub.length),(15,ai k)],
     [.box ((aC t).map .p),.box [.p (.int .u8 0),ai 0,.p (.int .u64 0),.p (.str ⟨#[]⟩),ai 0,.p .nils],.arr k 6 false (((t.sub.take k).map f).map aT)]⟩) (by omega) (by simp[aa]) (by
     intro k h K
     have w1:=aA h (by omega)
     obtain⟨x,hx,_,hm⟩:=ay h
     have bI:=hf x hm
     have b1:(k+1)*72≤1099511627776:=by omega
     have b2:k+1≤1099511627776:=by omega
     have e:(t.sub.take (k+1)).map f=(t.sub.take k).map f++[f x]:=by
      rw[List.take_succ_eq_append_getElem h,hx h];simp
     rw[e]
     have hlen:((t.sub.take k).map f).length=k:=by simp;omega
     generalize (t.sub.take k).map f=A at*
     simp[aa,h,hx,bX t.z h,bI,w1,b1,b2,hlen]
     try rfl) (by simp[aa])]
  simp[aa,ae t,key,hr]
  rw[aJ La (fun o=>o.1) (fun k=>⟨[(1,.ref 0 0),(2,.ref 1 0),(36,.p (.sl C)),(37,ai C.length),(38,ai k)],[.box [.p (.int .u8 t.kind),ai t.width,.p (.int .u64 t.bits),.p (.str t.name),ai t.low,.arr 2 t.sub.length 0 t.sub.length],.box [.p (.int .u8 0),ai 0,.p (.int .u64 0),.p (.str ⟨#[]⟩),ai 0,.p .nils],.arr t.sub.length 6 true (t.sub.map (aT∘f)),.box [.p (.int .u8 t.kind),ai t.width,.p (.int .u64 t.bits),.p (.str t.name),ai t.low,.p (.sl (t.sub.map (aT∘f)))]]⟩)
   (fun k=>(.ret,⟨[(1,.ref 0 0),(2,.ref 1 0),(36,.p (.sl C)),(37,ai C.length),(38,ai k)],[.box [.p (.int .u8 t.kind),ai t.width,.p (.int .u64 t.bits),.p (.str t.name),ai t.low,.arr 2 t.sub.length 0 t.sub.length],.box ((aC (nth La (k:Int)).2).map .p),.arr t.sub.length 6 true (t.sub.map (aT∘f)),.box [.p (.int .u8 t.kind),ai t.width,.p (.int .u64 t.bits),.p (.str t.name),ai t.low,.p (.sl (t.sub.map (aT∘f)))]]⟩))
   (.exit 2,⟨[(1,.ref 0 0),(2,.ref 1 0),(36,.p (.sl C)),(37,ai C.length),(38,ai La.length)],[.box [.p (.int .u8 t.kind),ai t.width,.p (.int .u64 t.bits),.p (.str t.name),ai t.low,.arr 2 t.sub.length 0 t.sub.length],.box [.p (.int .u8 0),ai 0,.p (.int .u64 0),.p (.str ⟨#[]⟩),ai 0,.p .nils],.arr t.sub.length 6 true (t.sub.map (aT∘f)),.box [.p (.int .u8 t.kind),ai t.width,.p (.int .u64 t.bits),.p (.str t.name),ai t.low,.p (.sl (t.sub.map (aT∘f)))]]⟩) (by omega) (by simp[aa]) (by
     intro k x h hx tt _ K
     have h':k<C.length:=by omega
     have w1:=aA h (by omega)
     obtain⟨o,ho,fn,abY,c1,c2,c3,c4⟩:=yc k h'
     simp at c2
     rw[tt] at ho
     subst ho
     rw[tt]
     obtain⟨x1,x2⟩:=x
     simp only at c4
     rw[ae x2] at c4 ⊢
     rcases c3 with rfl|⟨a,rfl⟩|⟨a,b,rfl⟩<;>cases x1<;>
     simp[aa,h,h',hC,w1,c1,c2,P'] at c4 ⊢<;>simp[aa,c4,w1]) (by simp[aa,hC])]
  rcases LN (az t f) La with⟨e1,e2⟩|⟨i,e1,e2⟩
  ·rw[e1,e2]
   simp[aa,e0]
  ·rw[e1,e2]
   have e3:=ae (nth La (i:Int)).2
   rw[e3]
   simp[aa,e3]
theorem To(N:Nat)(hN:2000≤N)(t:Tr)(f:Tr→Tr)(hl:t.sub.length≤1000)
  (hf:∀x∈t.sub,R (N-1) 172 [.agg ((aC x).map .p)] []=some (.agg ((aC (f x)).map .p),[]))
  (key:R (N-1) 190 [.agg ((aC (az t f)).map .p)] []=some (.tup [.agg ((aC (az t f)).map .p),ab false],[]))
  (hr:R (N-1) 191 [.p (.int .u8 t.kind)] []=some (.p .nils,[])):
  R N 172 [.agg ((aC t).map .p)] []=some (.agg ((aC (az t f)).map .p),[]):=by
  have aa:rows 172=_:=GH.eq_1
  obtain⟨n,rfl⟩:=up N
  rw[aE 172 Tryz.func172 rfl rfl]
  simp only[Nat.add_sub_cancel] at*
  have e0:(aC (az t f)).map AV.p=[.p (.int .u8 t.kind),ai t.width,.p (.int .u64 t.bits),.p (.str t.name),ai t.low,.p (.sl ((t.sub.map f).map aT))]:=by
   unfold az;rw[bA];rfl
  rw[e0] at key
  simp[aa,ag] at key
  simp[aa]
  rw[abC t.sub.length (fun k=>⟨[(1,.ref 0 0),(2,.ref 1 0),(3,.arr 2 k 0 k),(13,.p (fg t.z (t.sub.map aT))),(14,ai t.sub.length),(15,ai k)],
     [.box ((aC t).map .p),.box [.p (.int .u8 0),ai 0,.p (.int .u64 0),.p (.str ⟨#[]⟩),ai 0,.p .nils],.arr k 6 false (((t.sub.take k).map f).map aT)]⟩) (by omega) (by simp[aa]) (by
     intro k h K
     have w1:=aA h (by omega)
     obtain⟨x,hx,_,hm⟩:=ay h
     have bI:=hf x hm
     have b1:(k+1)*72≤1099511627776:=by omega
     have b2:k+1≤1099511627776:=by omega
     have e:(t.sub.take (k+1)).map f=(t.sub.take k).map f++[f x]:=by
      rw[List.take_succ_eq_append_getElem h,hx h];simp
     rw[e]
     have hlen:((t.sub.take k).map f).length=k:=by simp;omega
     generalize (t.sub.take k).map f=A at*
     simp[aa,h,hx,bX t.z h,bI,w1,b1,b2,hlen]
     try rfl) (by simp[aa])]
  simp[aa,ae t,key,hr]
  rw[av 0 (fun k=>⟨[(1,.ref 0 0),(2,.ref 1 0),(36,.p .nils),(37,ai 0),(38,ai 0)],[.box [.p (.int .u8 t.kind),ai t.width,.p (.int .u64 t.bits),.p (.str t.name),ai t.low,.arr 2 t.sub.length 0 t.sub.length],.box [.p (.int .u8 0),ai 0,.p (.int .u64 0),.p (.str ⟨#[]⟩),ai 0,.p .nils],.arr t.sub.length 6 true (t.sub.map (aT∘f)),.box [.p (.int .u8 t.kind),ai t.width,.p (.int .u64 t.bits),.p (.str t.name),ai t.low,.p (.sl (t.sub.map (aT∘f)))]]⟩)
   (.exit 2,⟨[(1,.ref 0 0),(2,.ref 1 0),(36,.p .nils),(37,ai 0),(38,ai 0)],[.box [.p (.int .u8 t.kind),ai t.width,.p (.int .u64 t.bits),.p (.str t.name),ai t.low,.arr 2 t.sub.length 0 t.sub.length],.box [.p (.int .u8 0),ai 0,.p (.int .u64 0),.p (.str ⟨#[]⟩),ai 0,.p .nils],.arr t.sub.length 6 true (t.sub.map (aT∘f)),.box [.p (.int .u8 t.kind),ai t.width,.p (.int .u64 t.bits),.p (.str t.name),ai t.low,.p (.sl (t.sub.map (aT∘f)))]]⟩) (by omega) (by simp[aa]) (by intro k h;omega) (by
  intro K
  simp[aa])]
  simp[aa,e0]
end Go.En.V
namespace Go.En.V
open Go.Proofs
inductive Rows(n:Nat)(t:Tr):List PV→List (Bool×Tr)→Prop
 |nil:Rows n t [] []
 |cons {c o C L}:dv n t c o→Rows n t C L→Rows n t (c::C) (o::L)
theorem OD{n:Nat}{t:Tr}{C:List PV}{L:List (Bool×Tr)}(h:Rows n t C L):C.length=L.length:=by
 induction h with
 |nil=>rfl
 |cons _ _ ih=>simp[ih]
theorem OE{n:Nat}{t:Tr}{C:List PV}{L:List (Bool×Tr)}(hr:Rows n t C L):∀k (h:k<C.length),∃o,nth L (k:Int)=o∧dv n t C[k] o:=by
 induction hr with
 |nil=>intro k h;simp at h
 | @cons c o C L hc hr ih=>
  intro k h
  cases k with
  |zero=>exact⟨o,rfl,hc⟩
  |succ k=>
   obtain⟨o',h1,h2⟩:=ih k (by simpa using h)
   exact⟨o',by rw[←h1];rfl,h2⟩
section
variable {m:Nat} {t a b:Tr} {d:Nat}
theorem mM(hs:t.sub=[a,b])(w:Int):dv (m+10) t (.fn 245 [.ptr [.fn 213 []] 0,.ptr [.int .u64 w] 0]) (bR a (nU a.width w),b):=
 ⟨_,_,rfl,rfl,Or.inr (Or.inr ⟨_,_,rfl⟩),Eo (m+9) (by omega) _ [] (Or.inl rfl) rfl t b a b w hs (Kr _ (by omega) t a b hs)⟩
theorem uJ(hs:t.sub=[a,b])(w v:Int):dv (m+10) t (.fn 245 [.ptr [.fn 250 [.ptr [.int .u64 v] 0]] 0,.ptr [.int .u64 w] 0]) (bR a (nU a.width w),bD t.width (nU t.width v)):=
 ⟨_,_,rfl,rfl,Or.inr (Or.inr ⟨_,_,rfl⟩),Eo (m+9) (by omega) _ _ (Or.inr ⟨v,rfl⟩) rfl t _ a b w hs (qO _ (by omega) t v)⟩
theorem gH(hs:t.sub=[a,b])(w:Int):dv (m+10) t (.fn 248 [.ptr [.fn 215 []] 0,.ptr [.int .u64 w] 0]) (bR b (nU b.width w),a):=
 ⟨_,_,rfl,rfl,Or.inr (Or.inr ⟨_,_,rfl⟩),Ae (m+9) (by omega) _ [] (Or.inl rfl) rfl t a a b w hs (Fc _ (by omega) t a [b] hs)⟩
theorem yH(hs:t.sub=[a,b])(w v:Int):dv (m+10) t (.fn 248 [.ptr [.fn 250 [.ptr [.int .u64 v] 0]] 0,.ptr [.int .u64 w] 0]) (bR b (nU b.width w),bD t.width (nU t.width v)):=
 ⟨_,_,rfl,rfl,Or.inr (Or.inr ⟨_,_,rfl⟩),Ae (m+9) (by omega) _ _ (Or.inr ⟨v,rfl⟩) rfl t _ a b w hs (qO _ (by omega) t v)⟩
theorem Fw(hs:t.sub=[a,b])(hd:Dp d a)(hm:2*d+1004≤m):dv (m+10) t (.fn 249 [.ptr [.fn 215 []] 0]) (aI a b,a):=
 ⟨_,_,rfl,rfl,Or.inr (Or.inl ⟨_,rfl⟩),DG (m+9) (by omega) _ [] (Or.inl rfl) rfl t a a b d hs hd (by omega) (Fc _ (by omega) t a [b] hs)⟩
theorem yG(hs:t.sub=[a,b])(hd:Dp d a)(hm:2*d+1004≤m)(v:Int):dv (m+10) t (.fn 249 [.ptr [.fn 250 [.ptr [.int .u64 v] 0]] 0]) (aI a b,bD t.width (nU t.width v)):=
 ⟨_,_,rfl,rfl,Or.inr (Or.inl ⟨_,rfl⟩),DG (m+9) (by omega) _ _ (Or.inr ⟨v,rfl⟩) rfl t _ a b d hs hd (by omega) (qO _ (by omega) t v)⟩
theorem UO(hs:t.sub=[a])(c:Tr)(r:List Tr)(ha:a.kind=t.kind→a.sub=c::r):dv (m+10) t (.fn 211 []) (decide (a.kind=t.kind),if a.kind=t.kind then c else t):=
 ⟨_,_,rfl,rfl,Or.inl rfl,N1 _ (by omega) t a c r hs ha⟩
theorem Xi(hs:t.sub=[a,b])(hw:0≤t.width∧t.width≤64):dv (m+10) t (.fn 218 []) (decide (b.kind=1)&&decide (t.width≤b.bits),bD t.width 0):=
 ⟨_,_,rfl,rfl,Or.inl rfl,adm _ (by omega) t a b hs hw⟩
theorem QD{c:Tr}(hs:t.sub=[a,b,c])(hd:Dp d b)(hm:2*d+1004≤m):dv (m+10) t (.fn 219 []) (bR a 1||(bR a 0||aI b c),if bR a 1=true then b else c):=
 ⟨_,_,rfl,rfl,Or.inl rfl,LW d _ (by omega) t a b c hs hd⟩
theorem QC(hs:t.sub=[a,b])(hb:b.kind=22→∃x r,b.sub=x::r):dv (m+10) t (.fn 220 []) (bR a 0,.mk 22 t.width 0 ⟨#[]⟩ 0 false [gF b]):=
 ⟨_,_,rfl,rfl,Or.inl rfl,Ln _ (by omega) t a b hs hb⟩
theorem JR(hs:t.sub=[a]):dv (m+10) t (.fn 221 []) (decide (a.width=t.width),a):=
 ⟨_,_,rfl,rfl,Or.inl rfl,NF _ (by omega) t a hs⟩
theorem JS(hs:t.sub=[a])(hl:a.kind=t.kind→IntKind.i64.wrap (t.low+a.low)=t.low+a.low):dv (m+10) t (.fn 222 []) (decide (a.kind=t.kind),if a.kind=t.kind then .mk t.kind t.width t.bits t.name (t.low+a.low) a.z a.sub else t):=
 ⟨_,_,rfl,rfl,Or.inl rfl,Px _ (by omega) t a hs hl⟩
end
theorem cx{w:Int}(h1:1≤w)(h2:w≤64):nU w 0=0:=by
 have:=B0 h1 h2
 unfold nU;rw[if_neg (by omega)]
theorem cw{w:Int}(h1:1≤w)(h2:w≤64):nU w 1=1:=by
 have:=B0 h1 h2
 unfold nU;rw[if_neg (by omega)]
theorem TQ{w:Int}(h1:1≤w)(h2:w≤64):br w≤18446744073709551615:=by
 obtain⟨w,rfl⟩:∃n:Nat,w=n:=⟨w.toNat,by omega⟩
 rw[qi (by omega) (by omega)]
 have:2^w≤2^64:=Nat.pow_le_pow_right (by decide) (by omega)
 omega
theorem cu{w:Int}(h1:1≤w)(h2:w≤64):nU w 18446744073709551615=br w:=by
 have:=TQ h1 h2
 unfold nU;split<;>omega
theorem cP(w v:Int):bh (bD w v)=kP w v:=rfl
theorem IY{b:Tr}(hb:b.kind=22→∃x r,b.sub=x::r):gF (bh b)=bh (gF b):=by
 unfold gF
 rw[aM,fo]
 split
 ·rename_i h
  obtain⟨x,r,e⟩:=hb h
  rw[e];rfl
 ·rfl
def iL(n:Nat)(t:Tr):Prop:=(R n 191 [.p (.int .u8 t.kind)] []=some (.p .nils,[])∧fp (bh t)=[])∨
 ∃C La,R n 191 [.p (.int .u8 t.kind)] []=some (.p (.sl C),[])∧La.length≤10∧Rows n t C La∧lu La (fp (bh t))
theorem Ac(m d:Nat)(k w:Int)(z:Bool)(x y:Tr)(w1:1≤w)(w2:w≤64)(x1:1≤x.width)(x2:x.width≤64)(y1:1≤y.width)(y2:y.width≤64)(k1:5≤k)(k2:k≤18)(hd:Dp d x)(hm:2*d+1004≤m)(Rt:k≤15→x.width=w∧y.width=w):iL (m+10) (.mk k w 0 ⟨#[]⟩ 0 z [x,y]):=by
 have hk:k=5∨k=6∨k=7∨k=8∨k=9∨k=10∨k=11∨k=12∨k=13∨k=14∨k=15∨k=16∨k=17∨k=18:=by omega
 have hw:0≤w∧w≤64:=⟨by omega,w2⟩
 rcases hk with rfl|rfl|rfl|rfl|rfl|rfl|rfl|rfl|rfl|rfl|rfl|rfl|rfl|rfl
 ·have hs:Tr.sub (.mk 5 w 0 ⟨#[]⟩ 0 z [x,y])=[x,y]:=rfl
  refine Or.inr ⟨_,_,Ky (m+5), ?_,.cons (mM hs 0) (.cons (gH hs 0) (.nil)), ?_⟩
  ·simp
  ·simp only[lu,fp,aM,aL,bH,bZ,cd,bL,cP,bh,qc,aZ,bS,aq,cr,cL,dC,fE,cx w1 w2,cw w1 w2,cu w1 w2,cx x1 x2,cw x1 x2,cu x1 x2,cx y1 y2,cw y1 y2,cu y1 y2,reduceIte,Int.reduceEq,or_self,or_false,false_or,or_true,true_or,and_self,and_true,true_and,implies_true]
 ·have hs:Tr.sub (.mk 6 w 0 ⟨#[]⟩ 0 z [x,y])=[x,y]:=rfl
  refine Or.inr ⟨_,_,Kx (m+5), ?_,.cons (gH hs 0) (.cons (yG hs hd hm 0) (.nil)), ?_⟩
  ·simp
  ·simp only[lu,fp,aM,aL,bH,bZ,cd,bL,cP,bh,qc,aZ,bS,aq,cr,cL,dC,fE,cx w1 w2,cw w1 w2,cu w1 w2,cx x1 x2,cw x1 x2,cu x1 x2,cx y1 y2,cw y1 y2,cu y1 y2,reduceIte,Int.reduceEq,or_self,or_false,false_or,or_true,true_or,and_self,and_true,true_and,implies_true]
 ·have hs:Tr.sub (.mk 7 w 0 ⟨#[]⟩ 0 z [x,y])=[x,y]:=rfl
  refine Or.inr ⟨_,_,Kw (m+5), ?_,.cons (uJ hs 0 0) (.cons (yH hs 0 0) (.cons (mM hs 1) (.cons (gH hs 1) (.nil)))), ?_⟩
  ·simp
  ·simp only[lu,fp,aM,aL,bH,bZ,cd,bL,cP,bh,qc,aZ,bS,aq,cr,cL,dC,fE,cx w1 w2,cw w1 w2,cu w1 w2,cx x1 x2,cw x1 x2,cu x1 x2,cx y1 y2,cw y1 y2,cu y1 y2,reduceIte,Int.reduceEq,or_self,or_false,false_or,or_true,true_or,and_self,and_true,true_and,implies_true]
 ·have hs:Tr.sub (.mk 8 w 0 ⟨#[]⟩ 0 z [x,y])=[x,y]:=rfl
  refine Or.inr ⟨_,_,Kv (m+5), ?_,.cons (uJ hs 0 0) (.cons (yH hs 0 0) (.cons (mM hs 18446744073709551615) (.cons (gH hs 18446744073709551615) (.cons (Fw hs hd hm) (.nil))))), ?_⟩
  ·simp
  ·simp only[lu,fp,aM,aL,bH,bZ,cd,bL,cP,bh,qc,aZ,bS,aq,cr,cL,dC,fE,cx w1 w2,cw w1 w2,cu w1 w2,cx x1 x2,cw x1 x2,cu x1 x2,cx y1 y2,cw y1 y2,cu y1 y2,reduceIte,Int.reduceEq,or_self,or_false,false_or,or_true,true_or,and_self,and_true,true_and,implies_true]
   rw[(Rt (by decide)).1,(Rt (by decide)).2];exact⟨rfl,rfl⟩
 ·have hs:Tr.sub (.mk 9 w 0 ⟨#[]⟩ 0 z [x,y])=[x,y]:=rfl
  refine Or.inr ⟨_,_,Ku (m+5), ?_,.cons (uJ hs 18446744073709551615 18446744073709551615) (.cons (yH hs 18446744073709551615 18446744073709551615) (.cons (mM hs 0) (.cons (gH hs 0) (.cons (Fw hs hd hm) (.nil))))), ?_⟩
  ·simp
  ·simp only[lu,fp,aM,aL,bH,bZ,cd,bL,cP,bh,qc,aZ,bS,aq,cr,cL,dC,fE,cx w1 w2,cw w1 w2,cu w1 w2,cx x1 x2,cw x1 x2,cu x1 x2,cx y1 y2,cw y1 y2,cu y1 y2,reduceIte,Int.reduceEq,or_self,or_false,false_or,or_true,true_or,and_self,and_true,true_and,implies_true]
   rw[(Rt (by decide)).1,(Rt (by decide)).2];exact⟨rfl,rfl⟩
 ·have hs:Tr.sub (.mk 10 w 0 ⟨#[]⟩ 0 z [x,y])=[x,y]:=rfl
  refine Or.inr ⟨_,_,Hg (m+5), ?_,.cons (mM hs 0) (.cons (gH hs 0) (.cons (yG hs hd hm 0) (.nil))), ?_⟩
  ·simp
  ·simp only[lu,fp,aM,aL,bH,bZ,cd,bL,cP,bh,qc,aZ,bS,aq,cr,cL,dC,fE,cx w1 w2,cw w1 w2,cu w1 w2,cx x1 x2,cw x1 x2,cu x1 x2,cx y1 y2,cw y1 y2,cu y1 y2,reduceIte,Int.reduceEq,or_self,or_false,false_or,or_true,true_or,and_self,and_true,true_and,implies_true]
 ·have hs:Tr.sub (.mk 11 w 0 ⟨#[]⟩ 0 z [x,y])=[x,y]:=rfl
  refine Or.inr ⟨_,_,Hf (m+5), ?_,.cons (gH hs 0) (.cons (Xi hs hw) (.cons (uJ hs 0 0) (.nil))), ?_⟩
  ·simp
  ·simp only[lu,fp,aM,aL,bH,bZ,cd,bL,cP,bh,qc,aZ,bS,aq,cr,cL,dC,fE,cx w1 w2,cw w1 w2,cu w1 w2,cx x1 x2,cw x1 x2,cu x1 x2,cx y1 y2,cw y1 y2,cu y1 y2,reduceIte,Int.reduceEq,or_self,or_false,false_or,or_true,true_or,and_self,and_true,true_and,implies_true]
   rfl
 ·have hs:Tr.sub (.mk 12 w 0 ⟨#[]⟩ 0 z [x,y])=[x,y]:=rfl
  refine Or.inr ⟨_,_,He (m+5), ?_,.cons (gH hs 0) (.cons (Xi hs hw) (.cons (uJ hs 0 0) (.nil))), ?_⟩
  ·simp
  ·simp only[lu,fp,aM,aL,bH,bZ,cd,bL,cP,bh,qc,aZ,bS,aq,cr,cL,dC,fE,cx w1 w2,cw w1 w2,cu w1 w2,cx x1 x2,cw x1 x2,cu x1 x2,cx y1 y2,cw y1 y2,cu y1 y2,reduceIte,Int.reduceEq,or_self,or_false,false_or,or_true,true_or,and_self,and_true,true_and,implies_true]
   rfl
 ·have hs:Tr.sub (.mk 13 w 0 ⟨#[]⟩ 0 z [x,y])=[x,y]:=rfl
  refine Or.inr ⟨_,_,Hd (m+5), ?_,.cons (gH hs 0) (.cons (uJ hs 0 0) (.nil)), ?_⟩
  ·simp
  ·simp only[lu,fp,aM,aL,bH,bZ,cd,bL,cP,bh,qc,aZ,bS,aq,cr,cL,dC,fE,cx w1 w2,cw w1 w2,cu w1 w2,cx x1 x2,cw x1 x2,cu x1 x2,cx y1 y2,cw y1 y2,cu y1 y2,reduceIte,Int.reduceEq,or_self,or_false,false_or,or_true,true_or,and_self,and_true,true_and,implies_true]
 ·have hs:Tr.sub (.mk 14 w 0 ⟨#[]⟩ 0 z [x,y])=[x,y]:=rfl
  refine Or.inr ⟨_,_,Hc (m+5), ?_,.cons (gH hs 1) (.nil), ?_⟩
  ·simp
  ·simp only[lu,fp,aM,aL,bH,bZ,cd,bL,cP,bh,qc,aZ,bS,aq,cr,cL,dC,fE,cx w1 w2,cw w1 w2,cu w1 w2,cx x1 x2,cw x1 x2,cu x1 x2,cx y1 y2,cw y1 y2,cu y1 y2,reduceIte,Int.reduceEq,or_self,or_false,false_or,or_true,true_or,and_self,and_true,true_and,implies_true]
 ·have hs:Tr.sub (.mk 15 w 0 ⟨#[]⟩ 0 z [x,y])=[x,y]:=rfl
  refine Or.inr ⟨_,_,Hb (m+5), ?_,.cons (yH hs 1 0) (.nil), ?_⟩
  ·simp
  ·simp only[lu,fp,aM,aL,bH,bZ,cd,bL,cP,bh,qc,aZ,bS,aq,cr,cL,dC,fE,cx w1 w2,cw w1 w2,cu w1 w2,cx x1 x2,cw x1 x2,cu x1 x2,cx y1 y2,cw y1 y2,cu y1 y2,reduceIte,Int.reduceEq,or_self,or_false,false_or,or_true,true_or,and_self,and_true,true_and,implies_true]
 ·have hs:Tr.sub (.mk 16 w 0 ⟨#[]⟩ 0 z [x,y])=[x,y]:=rfl
  refine Or.inr ⟨_,_,Ha (m+5), ?_,.cons (yG hs hd hm 1) (.nil), ?_⟩
  ·simp
  ·simp only[lu,fp,aM,aL,bH,bZ,cd,bL,cP,bh,qc,aZ,bS,aq,cr,cL,dC,fE,cx w1 w2,cw w1 w2,cu w1 w2,cx x1 x2,cw x1 x2,cu x1 x2,cx y1 y2,cw y1 y2,cu y1 y2,reduceIte,Int.reduceEq,or_self,or_false,false_or,or_true,true_or,and_self,and_true,true_and,implies_true]
 ·have hs:Tr.sub (.mk 17 w 0 ⟨#[]⟩ 0 z [x,y])=[x,y]:=rfl
  refine Or.inr ⟨_,_,G' (m+5), ?_,.cons (yG hs hd hm 0) (.cons (yH hs 0 0) (.nil)), ?_⟩
  ·simp
  ·simp only[lu,fp,aM,aL,bH,bZ,cd,bL,cP,bh,qc,aZ,bS,aq,cr,cL,dC,fE,cx w1 w2,cw w1 w2,cu w1 w2,cx x1 x2,cw x1 x2,cu x1 x2,cx y1 y2,cw y1 y2,cu y1 y2,reduceIte,Int.reduceEq,or_self,or_false,false_or,or_true,true_or,and_self,and_true,true_and,implies_true]
 ·have hs:Tr.sub (.mk 18 w 0 ⟨#[]⟩ 0 z [x,y])=[x,y]:=rfl
  refine Or.inr ⟨_,_,G_ (m+5), ?_,.cons (yG hs hd hm 0) (.nil), ?_⟩
  ·simp
  ·simp only[lu,fp,aM,aL,bH,bZ,cd,bL,cP,bh,qc,aZ,bS,aq,cr,cL,dC,fE,cx w1 w2,cw w1 w2,cu w1 w2,cx x1 x2,cw x1 x2,cu x1 x2,cx y1 y2,cw y1 y2,cu y1 y2,reduceIte,Int.reduceEq,or_self,or_false,false_or,or_true,true_or,and_self,and_true,true_and,implies_true]
theorem OC(m d:Nat)(t:Tr)(hn:NC t)(hs:∀x∈t.sub,jl x)(hd:∀x∈t.sub,Dp d x)(hm:2*d+1004≤m):iL (m+10) t:=by
 have e0:t.sub.map bh=(bh t).sub:=(fo t).symm
 cases hn with
 |con=>exact Or.inl ⟨KC (m+5),rfl⟩
 |var=>exact Or.inl ⟨KB (m+5),rfl⟩
 |un k w z x h1 h2 hk hx=>
  have x1:=hs x (by simp[aq])
  have ex:∃c r,x.kind=k→x.sub=c::r:=by
   by_cases h:x.kind=k
   ·obtain⟨c,hc,_⟩:=x1.nc.un_inv (by omega)
    exact⟨c,[],fun _=>hc⟩
   ·exact⟨default,[],fun h'=>absurd h' h⟩
  obtain⟨c,r,hc⟩:=ex
  have ec:x.kind=k→(nth (x.sub.map bh) 0)=bh c:=fun h=>by rw[hc h];rfl
  have PH:fp (bh (.mk k w 0 ⟨#[]⟩ 0 z [x]))=[(decide (x.kind=k),nth (x.sub.map bh) 0)]:=by
   rcases hk with rfl|rfl<;>(rw[←fo,←aM x];rfl)
  have hg:R (m+10) 191 [.p (.int .u8 k)] []=some (.p (.sl [.fn 211 []]),[]):=by
   rcases hk with rfl|rfl
   ·exact KA (m+5)
   ·exact Kz (m+5)
  refine Or.inr ⟨_,_,hg, ?_,.cons (UO (t:=.mk k w 0 ⟨#[]⟩ 0 z [x]) rfl c r hc) .nil, ?_⟩
  ·simp
  ·rw[PH]
   refine⟨⟨rfl,fun h=> ?_⟩,trivial⟩
   have h:x.kind=k:=of_decide_eq_true h
   show bh (if x.kind=k then c else _)=nth (x.sub.map bh) 0
   rw[if_pos h,ec h]
 |bin k w z x y h1 h2 k1 k2 hx hy=>
  have x1:=(hs x (by simp[aq])).wide
  have y1:=(hs y (by simp[aq])).wide
  exact Ac m d k w z x y h1 h2 x1.1 x1.2 y1.1 y1.2 k1 (by omega) (hd x (by simp[aq])) hm (fun _=>⟨hx,hy⟩)
 |cmp k z x y k1 k2 hy=>
  have x1:=(hs x (by simp[aq])).wide
  have y1:=(hs y (by simp[aq])).wide
  exact Ac m d k 1 z x y (by omega) (by omega) x1.1 x1.2 y1.1 y1.2 (by omega) k2 (hd x (by simp[aq])) hm (fun h=>by omega)
 |ite w z x y v h1 h2 hx hy hv=>
  refine Or.inr ⟨_,_,G9 (m+5), ?_,.cons (QD (t:=.mk 19 w 0 ⟨#[]⟩ 0 z [x,y,v]) rfl (hd y (by simp[aq])) hm) .nil, ?_⟩
  ·simp
  ·have e:fp (bh (.mk 19 w 0 ⟨#[]⟩ 0 z [x,y,v]))=[(bR (bh x) 1||(bR (bh x) 0||aI (bh y) (bh v)),if bR (bh x) 1=true then bh y else bh v)]:=rfl
   rw[e,cd,cd,bL]
   refine⟨⟨rfl,fun _=> ?_⟩,trivial⟩
   show bh (if bR x 1=true then y else v)=_
   split<;>rfl
 |cat w z x y h1 h2 hx hy hw=>
  have y1:=hs y (by simp[aq])
  have hb:y.kind=22→∃x r,y.sub=x::r:=fun h=>by
   obtain⟨c,hc,_⟩:=y1.nc.wid_inv (Or.inl h)
   exact⟨c,[],hc⟩
  refine Or.inr ⟨_,_,G8 (m+5), ?_,.cons (QC (t:=.mk 20 w 0 ⟨#[]⟩ 0 z [x,y]) rfl hb) .nil, ?_⟩
  ·simp
  ·have e:fp (bh (.mk 20 w 0 ⟨#[]⟩ 0 z [x,y]))=[(bR (bh x) 0,.mk 22 w 0 ⟨#[]⟩ 0 false [gF (bh y)])]:=rfl
   rw[e,IY hb,cd]
   exact⟨⟨rfl,fun _=>rfl⟩,trivial⟩
 |ext w l z x h1 h2 hl hx tt hw=>
  have x1:=hs x (by simp[aq])
  have wo:x.kind=21→IntKind.i64.wrap (l+x.low)=l+x.low:=fun h=>by
   obtain⟨q,hq,h3,h4,h5,h6⟩:=x1.nc.ext_inv h
   have:=x1.wide
   exact wrap64 (by omega) (by omega)
  refine Or.inr ⟨_,_,G7 (m+5), ?_,.cons (JR (t:=.mk 21 w 0 ⟨#[]⟩ l z [x]) rfl) (.cons (JS rfl wo) .nil), ?_⟩
  ·simp
  ·have e:fp (bh (.mk 21 w 0 ⟨#[]⟩ l z [x]))=[(decide ((bh x).width=w),bh x),(decide ((bh x).kind=21),.mk 21 w 0 ⟨#[]⟩ (l+(bh x).low) false (bh x).sub)]:=rfl
   rw[e,aL,aM,bZ,fo]
   refine⟨⟨rfl,fun _=>rfl⟩,⟨rfl,fun h=> ?_⟩,trivial⟩
   have h:x.kind=21:=of_decide_eq_true h
   show bh (if x.kind=21 then _ else _)=_
   rw[if_pos h,jI]
   rfl
 |wid k w z x h1 h2 hk hx=>
  have x1:=hs x (by simp[aq])
  have wo:x.kind=k→IntKind.i64.wrap (0+x.low)=0+x.low:=fun h=>by
   obtain⟨q,hq,h3,h4⟩:=x1.nc.wid_inv (by omega)
   rw[h4];rfl
  have hg:R (m+10) 191 [.p (.int .u8 k)] []=some (.p (.sl [.fn 221 [],.fn 222 []]),[]):=by
   rcases hk with rfl|rfl
   ·exact G6 (m+5)
   ·exact G5 (m+5)
  refine Or.inr ⟨_,_,hg, ?_,.cons (JR (t:=.mk k w 0 ⟨#[]⟩ 0 z [x]) rfl) (.cons (JS rfl wo) .nil), ?_⟩
  ·simp
  ·have e:fp (bh (.mk k w 0 ⟨#[]⟩ 0 z [x]))=[(decide ((bh x).width=w),bh x),(decide ((bh x).kind=k),.mk k w 0 ⟨#[]⟩ (0+(bh x).low) false (bh x).sub)]:=by
    rcases hk with rfl|rfl<;>rfl
   rw[e,aL,aM,bZ,fo]
   refine⟨⟨rfl,fun _=>rfl⟩,⟨rfl,fun h=> ?_⟩,trivial⟩
   have h:x.kind=k:=of_decide_eq_true h
   show bh (if x.kind=k then _ else _)=_
   rw[if_pos h,jI]
   rfl
 |ld=>exact Or.inl ⟨G4 (m+5),rfl⟩
theorem Fo:∀(d:Nat) (t:Tr),Dp d (bh t)→Dp d t
 |0,t,h=>h.elim
 |d+1,t,h=>by
  obtain⟨h1,h2⟩:=h
  rw[fo] at h1 h2
  exact⟨by simpa using h1,fun x hx=>Fo d x (h2 _ (List.mem_map.2 ⟨x,hx,rfl⟩))⟩
theorem eh{t:Tr}(h:ez t=false):stepT t=pick t (fp t):=by unfold stepT;rw[h];rfl
theorem DA{t:Tr}(h:ez t=true):stepT t=kP t.width (bY t):=by unfold stepT;rw[if_pos h]
theorem LX{t:Tr}(hn:NC t)(hc:Gp t)(hs:∀x∈t.sub,jl x):cN t=0:=by
 have hl:=hn.few
 have e1:bM t.sub≤t.sub.length∧dt t.sub≤1:=by
  have h2:=hc.2
  generalize t.sub=l at h2
  induction l with
  |nil=>simp[bM,dt]
  |cons x l ih=>
   have i:=ih fun y hy=>h2 y (by simp[hy])
   have hx:=(h2 x (by simp)).2
   have a:=bz x
   have b:=eT x
   rw[hx] at a b
   simp only[bM,dt] at a b
   simp only[bM,dt,List.length_cons]
   omega
 have hb:yS t=false:=by
  unfold yS
  have a:=bz t
  have b:=eT t
  have c1:¬((400:Int)<aF t):=by omega
  have c2:¬((60:Int)<eg t):=by omega
  simp[c1,c2]
 have Ch:qP t=true:=by
  unfold qP
  have w:∀x∈t.sub,1≤x.width∧x.width≤64:=fun x hx=>(hs x hx).wide
  have h:jH gi true t=(true,true):=by
   apply IU
   ·unfold gi;rw[if_pos (BV hn w)]
   ·intro x hx
    have kV:=hs x hx
    have tt:=(hc.2 x hx).2
    refine⟨?_,tt⟩
    unfold gi
    rw[if_pos (BV kV.nc (by rw[tt];simp))]
  rw[h]
 unfold cN
 rw[hb,Ch,Qv hc]
 rfl
theorem KK:∀(d N:Nat) (t:Tr),jl t→Dp d t→d≤1000→aF t≤1000000→2*d+6000≤N→∃r,R N 172 [ag (aC t)] []=some (ag (aC r),[])∧bh r=lx t:=by
 intro d
 induction d with
 |zero=>intro N t _ h;exact h.elim
 |succ d ih=>
  intro N t hw ht hd gK hN
  have hl:=ht.1
  have Sb:=hw.nc.few
  obtain⟨f,hf⟩:=skolem t.sub (fun x y=>R (N-1) 172 [ag (aC x)] []=some (ag (aC y),[])∧bh y=lx x) (fun x hx=>ih (N-1) x (hw.sub x hx) (ht.2 x hx) (by omega) (by have:=kG hx;have:=bz t;omega) (by omega))
  obtain⟨m1,m2,m3,m4,m5,m6⟩:=Wn hw
  have MF:bh (az t f)=lV t:=by
   unfold az lV
   rw[jI]
   simp only[aZ,bS,fG,g_,cr,aq,List.map_map]
   congr 1
   apply List.map_congr_left
   intro x hx
   exact(hf x hx).2
  have hn:NC (az t f):=N3 (by rw[MF];exact m1)
  have dZ:∀x∈(az t f).sub,jl x∧Dp d x:=by
   intro y hy
   obtain⟨x,hx,rfl⟩:=List.mem_map.1 (show y∈t.sub.map f from hy)
   have g:=Ag (hw.sub x hx)
   rw[←(hf x hx).2] at g
   refine⟨VP _ g.wf,Fo d _ ?_⟩
   have q:=wF _ g.wf
   have hdx:eg x≤d:=(ht.2 x hx).dep
   exact q.mono (by have:=g.dep;omega)
  have ayf:aF (az t f)≤1000000:=by rw[←(SJ (az t f)).1,MF];omega
  have Co:Dp (d+1) (az t f):=⟨by have:=hn.few;omega,fun x hx=>(dZ x hx).2⟩
  have Vk:jl (az t f):=(iK _).2 ⟨hn,((iK t).1 hw).2.1,fun x hx=>(dZ x hx).1⟩
  have ho:=OC (N-1-10) d (az t f) hn (fun x hx=>(dZ x hx).1) (fun x hx=>(dZ x hx).2) (by omega)
  rw[show N-1-10+10=N-1 by omega] at ho
  rw[xe,←MF]
  cases hc:ez (az t f) with
  |true=>
   obtain⟨c1,c2,c3⟩:=(bV _).1 hc
   have d_:Gp (az t f):=⟨fun h=>by
    have:NC (az t f):=hn
    generalize az t f=u at*
    cases this with
    |var=>exact c2 rfl
    |un=>simp only[aZ] at h;omega
    |bin=>simp only[aZ] at h;omega
    |cmp=>simp only[aZ] at h;omega
    |wid=>simp only[aZ] at h;omega
    |con=>simp[aZ] at h
    |ite=>simp[aZ] at h
    |cat=>simp[aZ] at h
    |ext=>simp[aZ] at h
    |ld=>simp[aZ] at h,fun x hx=>by
    obtain⟨w0,b0,_,_,_,_,_,e,_⟩:=ba (dZ x hx).1 (c3 x hx)
    exact⟨c3 x hx,e⟩⟩
   have key:=Fz (N-1) (d+1) (az t f) (bY (az t f)) c1 (by have:=List.length_pos_iff.2 c2;exact this) c3 d_ Co (alo Vk) (by omega) ayf (LX hn d_ fun x hx=>(dZ x hx).1) (by omega) (fun n Nk=>SF n Nk (az t f) hn (fun x hx=>(dZ x hx).1) c3 c2 c1)
   refine⟨_,Tq N (by omega) t f _ (by omega) (fun x hx=>(hf x hx).1) key, ?_⟩
   have uy:ez (bh (az t f))=true:=by
    rw[bV,aM,fo]
    refine⟨c1,by simpa using c2,fun y hy=> ?_⟩
    obtain⟨x,hx,rfl⟩:=List.mem_map.1 hy
    rw[aM];exact c3 x hx
   rw[DA uy,rU,aL]
   rfl
  |false=>
   have Ch:(az t f).kind=24∨(az t f).sub=[]∨∃x∈(az t f).sub,x.kind≠1:=by
    by_cases q1:(az t f).kind=24
    ·exact Or.inl q1
    ·by_cases q2:(az t f).sub=[]
     ·exact Or.inr (Or.inl q2)
     ·refine Or.inr (Or.inr ?_)
      apply Classical.byContradiction
      intro h
      have:ez (az t f)=true:=(bV _).2 ⟨q1,q2,fun x hx=>Classical.byContradiction fun hk=>h ⟨x,hx,hk⟩⟩
      rw[hc] at this;exact absurd this (by simp)
   have key:=Fy (N-1) (az t f) (by omega) (by have:=hn.few;omega) Ch
   have uy:ez (bh (az t f))=false:=by
    cases h:ez (bh (az t f)) with
    |false=>rfl
    |true=>
     obtain⟨c1,c2,c3⟩:=(bV _).1 h
     rw[aM] at c1
     rw[fo] at c2 c3
     have:ez (az t f)=true:=(bV _).2 ⟨c1,by simpa using c2,fun x hx=>by rw[←aM];exact c3 _ (List.mem_map.2 ⟨x,hx,rfl⟩)⟩
     rw[hc] at this;exact absurd this (by simp)
   rw[eh uy]
   rcases ho with⟨r1,r2⟩|⟨C,La,r1,r2,r3,r4⟩
   ·refine⟨_,To N (by omega) t f (by omega) (fun x hx=>(hf x hx).1) key r1, ?_⟩
    rw[r2];rfl
   ·refine⟨_,Tp N (by omega) t f C La (by omega) (by omega) (OD r3) (fun x hx=>(hf x hx).1) key r1 (OE r3), ?_⟩
    exact cD rfl _ _ r4
end Go.En.V
namespace Go.En.V
open Go.Proofs
theorem eA(N:Nat)(hN:1≤N)(w x:Int):R N 179 [ai w,.p (.int .u64 x)] []=some (ag (aC (bD w x)),[]):=by
 have aa:rows 179={}:=rfl
 obtain⟨n,rfl⟩:=up N
 rw[aE 179 Tryz.func179 rfl rfl]
 simp[aa,bD,bA]
theorem jK(N:Nat)(hN:1≤N)(t:Tr)(x:Int):R N 181 [ag (aC t),.p (.int .u64 x)] []=some (ab (bR t x),[]):=by
 have aa:rows 181={}:=rfl
 obtain⟨n,rfl⟩:=up N
 rw[aE 181 Tryz.func181 rfl rfl]
 unfold bR
 by_cases h:t.kind=1
 ·simp[aa,ae t,eq_true h]
 ·simp[aa,ae t,h]
theorem OS(N:Nat)(hN:1100≤N)(w:Nat)(h1:1≤w)(h2:w≤64):R N 203 [ai w] []=some (.p (.int .u64 (br w)),[]):=by
 have aa:rows 203={}:=rfl
 obtain⟨n,rfl⟩:=up N
 rw[aE 203 Tryz.func203 rfl rfl]
 have g1:=kC n (by omega) w h1 h2
 have g2:=tp n ((w:Int)-1) (by omega) (by omega)
 have e2:IntKind.i64.wrap ((w:Int)-1)=(w:Int)-1:=wrap64 (by omega) (by omega)
 have e3:((w:Int)-1).toNat=w-1:=by omega
 have hp:2^(w-1)≤2^63:=Nat.pow_le_pow_right (by decide) (by omega)
 have RA:0<2^(w-1):=Nat.pow_pos (by decide)
 have e4:(2:Int)^(w-1)=((2^(w-1):Nat):Int):=by norm_cast
 have e5:2^w=2*2^(w-1):=by rw[←Nat.pow_succ'];congr 1;omega
 rw[e3,e4] at g2
 rw[qi h1 h2,e5]
 generalize 2^(w-1)=p at*
 rw[show((p:Int) % 18446744073709551616)=p by omega] at g2
 have e6:IntKind.u64.wrap ((p:Int)-1)=(p:Int)-1:=f_ (by omega) (by omega)
 have e7:IntKind.u64.wrap ((p:Int)-1+p)=((2*p-1:Nat):Int):=by rw[f_ (by omega) (by omega)];omega
 simp[aa,g1,g2,e2,e6,e7]
theorem jv(N:Nat)(hN:1200≤N)(t:Tr)(h1:1≤t.width)(h2:t.width≤64):R N 182 [ag (aC t)] []=some (ab (bR t (br t.width)),[]):=by
 have aa:rows 182=_:=ZN.eq_1
 obtain⟨n,rfl⟩:=up N
 rw[aE 182 Tryz.func182 rfl rfl]
 obtain⟨w,hw⟩:∃w:Nat,t.width=w:=⟨t.width.toNat,by omega⟩
 have g1:=OS n (by omega) w (by omega) (by omega)
 have g2:=jK n (by omega) t (br w)
 rw[ae t,hw] at g2
 rw[hw]
 simp[aa,ag] at g2
 simp[aa,ae t,hw,g1,g2]
theorem eD(t:Tr):ez (bh t)=ez t:=by
 rw[Bool.eq_iff_iff,bV,bV,aM,fo]
 simp only[List.mem_map,forall_exists_index,and_imp,forall_apply_eq_imp_iff₂,aM,ne_eq,List.map_eq_nil_iff]
theorem B_{x:Tr}(h:jl x){v:Int}(hi:bR x v=true):bh x=kP x.width v:=by
 unfold bR at hi
 simp only[Bool.and_eq_true,decide_eq_true_eq] at hi
 obtain⟨w0,b0,e1,e2,e3,e4,e5,e6,e7,e8⟩:=ba h hi.1
 rw[jI,e6,e7,e8,hi.1,hi.2]
 rfl
theorem ru5(w:Int)(z:Bool)(x y:Tr):lu [(bR x 0,y),(bR y 0,x)] (fp (bh (.mk 5 w 0 ⟨#[]⟩ 0 z [x,y]))):=by
 simp only[lu,fp,aM,aL,bH,bZ,cd,bL,cP,bh,qc,aZ,bS,aq,cr,cL,dC,fE,reduceIte,Int.reduceEq,or_self,or_false,false_or,or_true,true_or,and_self,and_true,true_and,implies_true]
theorem ru6(w:Int)(z:Bool)(x y:Tr):lu [(bR y 0,x),(aI x y,bD w 0)] (fp (bh (.mk 6 w 0 ⟨#[]⟩ 0 z [x,y]))):=by
 simp only[lu,fp,aM,aL,bH,bZ,cd,bL,cP,bh,qc,aZ,bS,aq,cr,cL,dC,fE,reduceIte,Int.reduceEq,or_self,or_false,false_or,or_true,true_or,and_self,and_true,true_and,implies_true]
theorem ru7(w:Int)(z:Bool)(x y:Tr):lu [(bR x 0,bD w 0),(bR y 0,bD w 0),(bR x 1,y),(bR y 1,x)] (fp (bh (.mk 7 w 0 ⟨#[]⟩ 0 z [x,y]))):=by
 simp only[lu,fp,aM,aL,bH,bZ,cd,bL,cP,bh,qc,aZ,bS,aq,cr,cL,dC,fE,reduceIte,Int.reduceEq,or_self,or_false,false_or,or_true,true_or,and_self,and_true,true_and,implies_true]
theorem ru8(w:Int)(z:Bool)(x y:Tr):lu [(bR x 0,bD w 0),(bR y 0,bD w 0),(bR x (br w),y),(bR y (br w),x),(aI x y,x)] (fp (bh (.mk 8 w 0 ⟨#[]⟩ 0 z [x,y]))):=by
 simp only[lu,fp,aM,aL,bH,bZ,cd,bL,cP,bh,qc,aZ,bS,aq,cr,cL,dC,fE,reduceIte,Int.reduceEq,or_self,or_false,false_or,or_true,true_or,and_self,and_true,true_and,implies_true]
theorem ru9(w:Int)(z:Bool)(x y:Tr)(hx:jl x)(hy:jl y)(ex:x.width=w)(ey:y.width=w):lu [(bR x (br w),x),(bR y (br w),y),(bR x 0,y),(bR y 0,x),(aI x y,x)] (fp (bh (.mk 9 w 0 ⟨#[]⟩ 0 z [x,y]))):=by
 simp only[lu,fp,aM,aL,bH,bZ,cd,bL,cP,bh,qc,aZ,bS,aq,cr,cL,dC,fE,reduceIte,Int.reduceEq,or_self,or_false,false_or,or_true,true_or,and_self,and_true,true_and,implies_true]
 exact⟨fun h=>by rw[B_ hx h,ex],fun h=>by rw[B_ hy h,ey]⟩
theorem axz(w:Int)(z:Bool)(x y:Tr):lu [(bR x 0,y),(bR y 0,x),(aI x y,bD w 0)] (fp (bh (.mk 10 w 0 ⟨#[]⟩ 0 z [x,y]))):=by
 simp only[lu,fp,aM,aL,bH,bZ,cd,bL,cP,bh,qc,aZ,bS,aq,cr,cL,dC,fE,reduceIte,Int.reduceEq,or_self,or_false,false_or,or_true,true_or,and_self,and_true,true_and,implies_true]
theorem axy(w:Int)(z:Bool)(x y:Tr):lu [(bR y 0,x),(decide (y.kind=1)&&decide (w≤y.bits),bD w 0),(bR x 0,bD w 0)] (fp (bh (.mk 11 w 0 ⟨#[]⟩ 0 z [x,y]))):=by
 simp only[lu,fp,aM,aL,bH,bZ,cd,bL,cP,bh,qc,aZ,bS,aq,cr,cL,dC,fE,reduceIte,Int.reduceEq,or_self,or_false,false_or,or_true,true_or,and_self,and_true,true_and,implies_true]
theorem axx(w:Int)(z:Bool)(x y:Tr):lu [(bR y 0,x),(decide (y.kind=1)&&decide (w≤y.bits),bD w 0),(bR x 0,bD w 0)] (fp (bh (.mk 12 w 0 ⟨#[]⟩ 0 z [x,y]))):=by
 simp only[lu,fp,aM,aL,bH,bZ,cd,bL,cP,bh,qc,aZ,bS,aq,cr,cL,dC,fE,reduceIte,Int.reduceEq,or_self,or_false,false_or,or_true,true_or,and_self,and_true,true_and,implies_true]
theorem axw(w:Int)(z:Bool)(x y:Tr)(hx:jl x)(hy:jl y)(ex:x.width=w)(ey:y.width=w):lu [(bR y 0,x),(bR x 0,x)] (fp (bh (.mk 13 w 0 ⟨#[]⟩ 0 z [x,y]))):=by
 simp only[lu,fp,aM,aL,bH,bZ,cd,bL,cP,bh,qc,aZ,bS,aq,cr,cL,dC,fE,reduceIte,Int.reduceEq,or_self,or_false,false_or,or_true,true_or,and_self,and_true,true_and,implies_true]
 exact fun h=>by rw[B_ hx h,ex]
theorem axv(w:Int)(z:Bool)(x y:Tr):lu [(bR y 1,x)] (fp (bh (.mk 14 w 0 ⟨#[]⟩ 0 z [x,y]))):=by
 simp only[lu,fp,aM,aL,bH,bZ,cd,bL,cP,bh,qc,aZ,bS,aq,cr,cL,dC,fE,reduceIte,Int.reduceEq,or_self,or_false,false_or,or_true,true_or,and_self,and_true,true_and,implies_true]
theorem axu(w:Int)(z:Bool)(x y:Tr):lu [(bR y 1,bD w 0)] (fp (bh (.mk 15 w 0 ⟨#[]⟩ 0 z [x,y]))):=by
 simp only[lu,fp,aM,aL,bH,bZ,cd,bL,cP,bh,qc,aZ,bS,aq,cr,cL,dC,fE,reduceIte,Int.reduceEq,or_self,or_false,false_or,or_true,true_or,and_self,and_true,true_and,implies_true]
theorem axt(w:Int)(z:Bool)(x y:Tr):lu [(aI x y,bD w 1)] (fp (bh (.mk 16 w 0 ⟨#[]⟩ 0 z [x,y]))):=by
 simp only[lu,fp,aM,aL,bH,bZ,cd,bL,cP,bh,qc,aZ,bS,aq,cr,cL,dC,fE,reduceIte,Int.reduceEq,or_self,or_false,false_or,or_true,true_or,and_self,and_true,true_and,implies_true]
theorem axs(w:Int)(z:Bool)(x y:Tr):lu [(aI x y,bD w 0),(bR y 0,bD w 0)] (fp (bh (.mk 17 w 0 ⟨#[]⟩ 0 z [x,y]))):=by
 simp only[lu,fp,aM,aL,bH,bZ,cd,bL,cP,bh,qc,aZ,bS,aq,cr,cL,dC,fE,reduceIte,Int.reduceEq,or_self,or_false,false_or,or_true,true_or,and_self,and_true,true_and,implies_true]
theorem axr(w:Int)(z:Bool)(x y:Tr):lu [(aI x y,bD w 0)] (fp (bh (.mk 18 w 0 ⟨#[]⟩ 0 z [x,y]))):=by
 simp only[lu,fp,aM,aL,bH,bZ,cd,bL,cP,bh,qc,aZ,bS,aq,cr,cL,dC,fE,reduceIte,Int.reduceEq,or_self,or_false,false_or,or_true,true_or,and_self,and_true,true_and,implies_true]
def dA(t:Tr)(f:Tr→Tr)(k:Nat):Bool:= !decide (t.kind=24)&&((t.sub.take k).map f).all fun x=>decide (x.kind=1)
theorem IC(d N:Nat)(hN:2*d+6000≤N)(t:Tr)(f:Tr→Tr)(hl:t.sub.length≤1000)(hn:NC (az t f))(hs:∀x∈(az t f).sub,jl x∧Dp d x)
  (hf:∀x∈t.sub,R (N-1) 163 [.agg ((aC x).map .p)] []=some (.agg ((aC (f x)).map .p),[]))
  (jG:9≤t.kind)(jA:t.kind≤12):
  ∃r,R N 163 [.agg ((aC t).map .p)] []=some (.agg ((aC r).map .p),[])∧bh r=stepT (bh (az t f)):=by
 have aa:rows 163=_:=Bl.eq_1
 obtain⟨n,rfl⟩:=up N
 rw[aE 163 Tryz.func163 rfl rfl]
 simp only[Nat.add_sub_cancel] at*
 simp -implicitDefEqProofs[aa]
 simp -implicitDefEqProofs[aa,qo,nw]
 rw[av t.sub.length (fun k=>⟨[(1,.ref 0 0),(2,.ref 1 0),(3,.ref 2 0),(4,ab (dA t f k)),(5,ai k)],
     [.box ((aC t).map .p),.box [.p (.int .u8 0),ai 0,.p (.int .u64 0),.p (.str ⟨#[]⟩),ai 0,.p .nils],.box [.p (.int .u8 t.kind),ai t.width,.p (.int .u64 t.bits),.p (.str t.name),ai t.low,.arr 3 k 0 k],.arr k 6 false (((t.sub.take k).map f).map aT)]⟩)
    (.exit 0,⟨[(1,.ref 0 0),(2,.ref 1 0),(3,.ref 2 0),(4,ab (dA t f t.sub.length)),(5,ai t.sub.length)],
      [.box ((aC t).map .p),.box [.p (.int .u8 0),ai 0,.p (.int .u64 0),.p (.str ⟨#[]⟩),ai 0,.p .nils],.box [.p (.int .u8 t.kind),ai t.width,.p (.int .u64 t.bits),.p (.str t.name),ai t.low,.arr 3 t.sub.length 0 t.sub.length],.arr t.sub.length 6 false ((t.sub.map f).map aT)]⟩) (by omega) (by simp -implicitDefEqProofs[aa,dA]) (by
      intro k h K
      have w1:=aA h (by omega)
      obtain⟨x,hx,_,hm⟩:=ay h
      have bI:=hf x hm
      have b1:(k+1)*72≤1099511627776:=by omega
      have b2:k+1≤1099511627776:=by omega
      have e:(t.sub.take (k+1)).map f=(t.sub.take k).map f++[f x]:=by
       rw[List.take_succ_eq_append_getElem h,hx h];simp
      have e2:dA t f (k+1)=aj (dA t f k) (decide ((f x).kind=1)):=by
       unfold dA
       rw[e,List.all_append,ak,Bool.and_assoc]
       simp
      rw[e,e2]
      have hlen:((t.sub.take k).map f).length=k:=by simp;omega
      generalize (t.sub.take k).map f=A at*
      have ya:aT (f x)=.agg [.int .u8 (f x).kind,.int .i64 (f x).width,.int .u64 (f x).bits,.str (f x).name,.int .i64 (f x).low,fg (f x).z ((f x).sub.map aT)]:=by
       rw[show aT (f x)=.agg (aC (f x)) from rfl,ae (f x)]
      have bW:((k:Int)<(k:Int)+1)=True:=by simp;omega
      cases dA t f k<;>
      simp -implicitDefEqProofs[aa,h,hx,bX t.z h,bI,w1,b1,b2,hlen,ae (f x),ya,bW]) (by simp -implicitDefEqProofs[aa])]
 have hq:(az t f).sub=t.sub.map f:=rfl
 have x8:dA t f t.sub.length=(!decide (t.kind=24)&&(t.sub.map f).all fun x=>decide (x.kind=1)):=by unfold dA;rw[List.take_length]
 by_cases h0:t.kind=24∨t.sub=[]
 ·refine⟨az t f, ?_, ?_⟩
  ·have e0:(aC (az t f)).map AV.p=[.p (.int .u8 t.kind),ai t.width,.p (.int .u64 t.bits),.p (.str t.name),ai t.low,.p (.sl ((t.sub.map f).map aT))]:=by
    unfold az;rw[bA];rfl
   rw[e0]
   rcases h0 with h0|h0
   ·by_cases h1:t.sub=[]
    ·simp -implicitDefEqProofs[aa,ae t,eq_true h0,h1]
    ·simp -implicitDefEqProofs[aa,ae t,eq_true h0,h1]
   ·simp -implicitDefEqProofs[aa,ae t,h0]
  ·rcases h0 with h0|h0
   ·have hc:ez (az t f)=false:=by
     cases h:ez (az t f) with
     |false=>rfl
     |true=>exact absurd h0 ((bV _).1 h).1
    rw[eh (by rw[eD];exact hc)]
    have e:fp (bh (az t f))=[]:=by
     unfold fp
     rw[aM,show(az t f).kind=24 from h0]
     rfl
    rw[e];rfl
   ·have hc:ez (az t f)=false:=by
     cases h:ez (az t f) with
     |false=>rfl
     |true=>exact absurd (by rw[hq,h0];rfl) ((bV _).1 h).2.1
    rw[eh (by rw[eD];exact hc)]
    have e:fp (bh (az t f))=[]:=by
     have dZ:(az t f).sub=[]:=by rw[hq,h0];rfl
     generalize az t f=u at hn dZ
     cases hn<;>first|(simp[aq] at dZ;done)|rfl
    rw[e];rfl
 have mH:¬t.kind=24:=fun h=>h0 (Or.inl h)
 have fB:¬t.sub=[]:=fun h=>h0 (Or.inr h)
 cases hc:ez (az t f) with
 |true=>
  obtain⟨c1,c2,c3⟩:=(bV _).1 hc
  have dz:dA t f t.sub.length=true:=by
   rw[x8]
   simp only[mH,decide_false,Bool.not_false,Bool.true_and,List.all_eq_true,decide_eq_true_eq]
   exact c3
  have gv:=vZ n (by omega) (az t f) hn (fun x hx=>(hs x hx).1) c3 c2 c1
  have gc:=eA n (by omega) t.width (bY (az t f):Nat)
  refine⟨bD t.width (bY (az t f):Nat), ?_, ?_⟩
  ·generalize (bY (az t f):Nat)=V at*
   have e0:(aC (az t f)).map AV.p=[.p (.int .u8 t.kind),ai t.width,.p (.int .u64 t.bits),.p (.str t.name),ai t.low,.p (.sl ((t.sub.map f).map aT))]:=by
    unfold az;rw[bA];rfl
   have en:(aC (bD t.width V)).map AV.p=[.p (.int .u8 1),ai t.width,.p (.int .u64 V),.p (.str ⟨#[]⟩),ai 0,.p .nils]:=by
    unfold bD;rw[bA];rfl
   (unfold ag at gv;rw[e0] at gv)
   (try unfold ag at gc);rw[en] at gc ⊢
   simp -implicitDefEqProofs[aa,ag] at gv gc
   simp -implicitDefEqProofs[aa,ae t,mH,fB,dz,gv,gc]
  ·rw[DA (by rw[eD];exact hc),rU,aL]
   rfl
 |false=>
  have dz:dA t f t.sub.length=false:=by
   cases h:dA t f t.sub.length with
   |false=>rfl
   |true=>
    rw[x8] at h
    simp only[mH,decide_false,Bool.not_false,Bool.true_and,List.all_eq_true,decide_eq_true_eq] at h
    have:ez (az t f)=true:=(bV _).2 ⟨mH,by rw[hq];simpa using fB,h⟩
    rw[hc] at this;exact absurd this (by simp)
  have e0:(aC (az t f)).map AV.p=[.p (.int .u8 t.kind),ai t.width,.p (.int .u64 t.bits),.p (.str t.name),ai t.low,.p (.sl ((t.sub.map f).map aT))]:=by
    unfold az;rw[bA];rfl
  have vo:ez (bh (az t f))=false:=by rw[eD];exact hc
  have EL:=hn
  generalize hu:az t f=u at EL
  cases EL with
  |bin k w z x y h1 h2 k1 k2 hx hy=>
   have nW:=hu
   simp only[az,Tr.mk.injEq] at nW
   obtain⟨tk,tw,tb,tn,tl,tz,ts⟩:=nW
   subst tk;subst tw
   have bC:t.sub.length=2:=by rw[←List.length_map (f:=f),ts];rfl
   rw[ts] at e0
   rw[bC] at dz
   have m9:x∈(az t f).sub:=by rw[hq,ts];simp
   have uq:y∈(az t f).sub:=by rw[hq,ts];simp
   have d_:=c_ d n x y (hs x m9).2 (by omega)
   have g0:=jK n (by omega) x
   have g1:=jK n (by omega) y
   have o0:=jv n (by omega) x (hs x m9).1.wide.1 (hs x m9).1.wide.2
   have o1:=jv n (by omega) y (hs y uq).1.wide.1 (hs y uq).1.wide.2
   have gc:=eA n (by omega) t.width 0
   have gz:=eA n (by omega) 1 0
   have AL:=eA n (by omega) 1 1
   have hZ:(aC (bD t.width 0)).map AV.p=[.p (.int .u8 1),ai t.width,.p (.int .u64 0),.p (.str ⟨#[]⟩),ai 0,.p .nils]:=by unfold bD;rw[bA];rfl
   have hX:∀v,(aC (bD 1 v)).map AV.p=[.p (.int .u8 1),ai 1,.p (.int .u64 v),.p (.str ⟨#[]⟩),ai 0,.p .nils]:=by intro v;unfold bD;rw[bA];rfl
   (unfold ag at gc;rw[hZ] at gc)
   (unfold ag at gz AL;rw[hX] at gz AL)
   rw[ae x,ae y] at d_
   rw[ae x] at g0 o0
   rw[ae y] at g1 o1
   simp -implicitDefEqProofs[aa,ag] at d_ g0 g1 gc gz AL o0 o1
   rw[ts]
   have WD:IntKind.u64.wrap t.width=t.width:=f_ (by omega) (by omega)
   rw[show br x.width=br t.width by rw[hx]] at o0
   rw[show br y.width=br t.width by rw[hy]] at o1
   have bI:=(hs x m9).1
   have dV:=(hs y uq).1
   have hk:t.kind=9∨t.kind=10∨t.kind=11∨t.kind=12:=by omega
   rcases hk with tk|tk|tk|tk
   ·refine⟨pick (az t f) [(bR x (br t.width),x),(bR y (br t.width),y),(bR x 0,y),(bR y 0,x),(aI x y,x)], ?_, ?_⟩
    have r0:=o0
    have r1:=o1
    have r2:=g0 0
    have r3:=g1 0
    have r4:=d_
    cases c0:bR x (br t.width)
    ·rw[c0] at r0
     cases c1:bR y (br t.width)
     ·rw[c1] at r1
      cases c2:bR x 0
      ·rw[c2] at r2
       cases c3:bR y 0
       ·rw[c3] at r3
        cases c4:aI x y
        ·rw[c4] at r4
         simp -implicitDefEqProofs[aa,pick,d_,ae t,tk,dz,bC,gc,gz,e0,hZ,hX,ae x,ae y,c0,c1,c2,c3,c4,r0,r1,r2,r3,r4]
        ·rw[c4] at r4
         simp -implicitDefEqProofs[aa,pick,d_,ae t,tk,dz,bC,gc,gz,e0,hZ,hX,ae x,ae y,c0,c1,c2,c3,c4,r0,r1,r2,r3,r4]
       ·rw[c3] at r3
        simp -implicitDefEqProofs[aa,pick,d_,ae t,tk,dz,bC,gc,gz,e0,hZ,hX,ae x,ae y,c0,c1,c2,c3,r0,r1,r2,r3,r4]
      ·rw[c2] at r2
       simp -implicitDefEqProofs[aa,pick,d_,ae t,tk,dz,bC,gc,gz,e0,hZ,hX,ae x,ae y,c0,c1,c2,r0,r1,r2,r3,r4]
     ·rw[c1] at r1
      simp -implicitDefEqProofs[aa,pick,d_,ae t,tk,dz,bC,gc,gz,e0,hZ,hX,ae x,ae y,c0,c1,r0,r1,r2,r3,r4]
    ·rw[c0] at r0
     simp -implicitDefEqProofs[aa,pick,d_,ae t,tk,dz,bC,gc,gz,e0,hZ,hX,ae x,ae y,c0,r0,r1,r2,r3,r4]
    ·rw[←hu,eh vo]
     refine cD rfl _ _ ?_
     rw[hu,tk]
     exact ru9 t.width z x y bI dV hx hy
   ·refine⟨pick (az t f) [(bR x 0,y),(bR y 0,x),(aI x y,bD t.width 0)], ?_, ?_⟩
    have r0:=g0 0
    have r1:=g1 0
    have r2:=d_
    cases c0:bR x 0
    ·rw[c0] at r0
     cases c1:bR y 0
     ·rw[c1] at r1
      cases c2:aI x y
      ·rw[c2] at r2
       simp -implicitDefEqProofs[aa,pick,d_,ae t,tk,dz,bC,gc,gz,e0,hZ,hX,ae x,ae y,c0,c1,c2,r0,r1,r2]
      ·rw[c2] at r2
       simp -implicitDefEqProofs[aa,pick,d_,ae t,tk,dz,bC,gc,gz,e0,hZ,hX,ae x,ae y,c0,c1,c2,r0,r1,r2]
     ·rw[c1] at r1
      simp -implicitDefEqProofs[aa,pick,d_,ae t,tk,dz,bC,gc,gz,e0,hZ,hX,ae x,ae y,c0,c1,r0,r1,r2]
    ·rw[c0] at r0
     simp -implicitDefEqProofs[aa,pick,d_,ae t,tk,dz,bC,gc,gz,e0,hZ,hX,ae x,ae y,c0,r0,r1,r2]
    ·rw[←hu,eh vo]
     refine cD rfl _ _ ?_
     rw[hu,tk]
     exact axz t.width z x y
   ·refine⟨pick (az t f) [(bR y 0,x),(decide (y.kind=1)&&decide (t.width≤y.bits),bD t.width 0),(bR x 0,bD t.width 0)], ?_, ?_⟩
    have r0:=g1 0
    have r2:=g0 0
    cases c0:bR y 0
    ·rw[c0] at r0
     by_cases k0:y.kind=1
     ·by_cases k1:t.width≤y.bits
      ·simp -implicitDefEqProofs[aa,pick,d_,ae t,tk,dz,bC,gc,gz,e0,hZ,hX,ae x,ae y,c0,r0,r2,eq_true k0,k1,WD]
      ·skip
       cases c2:bR x 0
       ·rw[c2] at r2
        simp -implicitDefEqProofs[aa,pick,d_,ae t,tk,dz,bC,gc,gz,e0,hZ,hX,ae x,ae y,c0,eq_true k0,k1,WD,c2,r0,r2]
       ·rw[c2] at r2
        simp -implicitDefEqProofs[aa,pick,d_,ae t,tk,dz,bC,gc,gz,e0,hZ,hX,ae x,ae y,c0,eq_true k0,k1,WD,c2,r0,r2]
     ·skip
      cases c2:bR x 0
      ·rw[c2] at r2
       simp -implicitDefEqProofs[aa,pick,d_,ae t,tk,dz,bC,gc,gz,e0,hZ,hX,ae x,ae y,c0,k0,c2,r0,r2]
      ·rw[c2] at r2
       simp -implicitDefEqProofs[aa,pick,d_,ae t,tk,dz,bC,gc,gz,e0,hZ,hX,ae x,ae y,c0,k0,c2,r0,r2]
    ·rw[c0] at r0
     simp -implicitDefEqProofs[aa,pick,d_,ae t,tk,dz,bC,gc,gz,e0,hZ,hX,ae x,ae y,c0,r0,r2]
    ·rw[←hu,eh vo]
     refine cD rfl _ _ ?_
     rw[hu,tk]
     exact axy t.width z x y
   ·refine⟨pick (az t f) [(bR y 0,x),(decide (y.kind=1)&&decide (t.width≤y.bits),bD t.width 0),(bR x 0,bD t.width 0)], ?_, ?_⟩
    have r0:=g1 0
    have r2:=g0 0
    cases c0:bR y 0
    ·rw[c0] at r0
     by_cases k0:y.kind=1
     ·by_cases k1:t.width≤y.bits
      ·simp -implicitDefEqProofs[aa,pick,d_,ae t,tk,dz,bC,gc,gz,e0,hZ,hX,ae x,ae y,c0,r0,r2,eq_true k0,k1,WD]
      ·skip
       cases c2:bR x 0
       ·rw[c2] at r2
        simp -implicitDefEqProofs[aa,pick,d_,ae t,tk,dz,bC,gc,gz,e0,hZ,hX,ae x,ae y,c0,eq_true k0,k1,WD,c2,r0,r2]
       ·rw[c2] at r2
        simp -implicitDefEqProofs[aa,pick,d_,ae t,tk,dz,bC,gc,gz,e0,hZ,hX,ae x,ae y,c0,eq_true k0,k1,WD,c2,r0,r2]
     ·skip
      cases c2:bR x 0
      ·rw[c2] at r2
       simp -implicitDefEqProofs[aa,pick,d_,ae t,tk,dz,bC,gc,gz,e0,hZ,hX,ae x,ae y,c0,k0,c2,r0,r2]
      ·rw[c2] at r2
       simp -implicitDefEqProofs[aa,pick,d_,ae t,tk,dz,bC,gc,gz,e0,hZ,hX,ae x,ae y,c0,k0,c2,r0,r2]
    ·rw[c0] at r0
     simp -implicitDefEqProofs[aa,pick,d_,ae t,tk,dz,bC,gc,gz,e0,hZ,hX,ae x,ae y,c0,r0,r2]
    ·rw[←hu,eh vo]
     refine cD rfl _ _ ?_
     rw[hu,tk]
     exact axx t.width z x y
  |_=>
   have:=congrArg Tr.kind hu
   simp only[az,aZ] at this
   omega
end Go.En.V
