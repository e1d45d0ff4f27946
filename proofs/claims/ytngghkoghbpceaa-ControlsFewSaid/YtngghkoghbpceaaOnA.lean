/-
  The statement ControlsOnce: the plain law, part 1: what a transfer does with the outcome of a transaction.
  Conditions: none.
-/
import Derived.Test.YtngghkoghbpceaaN8h
import Derived.Test.YtngghkoghbpceaaPM
import Derived.Lib.EndianBits
namespace Go.Proofs.Ytngghkoghbpceaa
set_option linter.unusedVariables false
set_option linter.unusedSimpArgs false
set_option maxRecDepth 100000
set_option maxHeartbeats 4000000
theorem and128: ∀n:Fin 256,decide (Go.bits .and .u8 ((n.val:Nat):Int) 128=0)=decide (n.val<128):=by decide+kernel
theorem and128'(x:Int)(h0:0≤x)(h1:x<256):decide (Go.bits .and .u8 x 128=0)=decide (x<128):=by
 obtain⟨n,rfl⟩: ∃n:Nat,x=n:=⟨x.toNat,by omega⟩
 have:=and128 ⟨n,by omega⟩
 simp only at this
 rw[this]
 simp only[decide_eq_decide];omega
def rdB(r1 r5:Int):Bool:=decide (128≤r1)&&decide (0<r5)
def wrB(r1 r5:Int):Bool:=decide (r1<128)&&decide (0<r5)
theorem reads_eq(m:Nat)(r1 r2 r3 r4 r5:Int)(h0:0≤r1)(h1:r1<256):reads_D m (r1,r2,r3,r4,r5,())=some (rdB r1 r5,()):=by
 unfold reads_D reads_J0
 rw[show decide (Go.bits .and .u8 (r1,r2,r3,r4,r5,()).1 128=0)=decide (r1<128)from and128' r1 h0 h1]
 by_cases h:r1<128
 ·rw[dT h,rdB,dF (by omega: ¬128≤r1)];rfl
 ·rw[dF h,rdB,dT (by omega:128≤r1)];rfl
theorem writes_eq(m:Nat)(r1 r2 r3 r4 r5:Int)(h0:0≤r1)(h1:r1<256):writes_D m (r1,r2,r3,r4,r5,())=some (wrB r1 r5,()):=by
 unfold writes_D writes_J0
 rw[show decide (Go.bits .and .u8 (r1,r2,r3,r4,r5,()).1 128=0)=decide (r1<128)from and128' r1 h0 h1]
 by_cases h:r1<128
 ·rw[dT h,wrB,dT h];rfl
 ·rw[dF h,wrB,dF h];rfl
theorem rwrites_eq(m:Nat)(r1 r2 r3 r4 r5:Int):rwrites_D m (r1,r2,r3,r4,r5,())=some (wrB r1 r5,()):=by
 unfold rwrites_D rwrites_J0 wrB
 by_cases h:r1<128
 ·simp only[dT h,cond_true,Bool.true_and]
 ·simp only[dF h,cond_false,Bool.false_and]
def isMx(x:Int):Prop:=x=8∨x=16∨x=32∨x=64
theorem sizes_eq(m:Nat)(n:Int)(h0:0≤n): ∃x,sizes_D m n=some (x,())∧isMx x:=by
 have h:Int.tmod n 4=0∨Int.tmod n 4=1∨Int.tmod n 4=2∨Int.tmod n 4=3:=by
  rw[Int.tmod_eq_emod_of_nonneg h0];omega
 unfold sizes_D
 rcases h with h|h|h|h<;>rw[h]
 ·exact⟨8,by rfl,.inl rfl⟩
 ·exact⟨16,by rfl,.inr (.inl rfl)⟩
 ·exact⟨32,by rfl,.inr (.inr (.inl rfl))⟩
 ·exact⟨64,by rfl,.inr (.inr (.inr rfl))⟩
theorem fits8_eq(m:Nat)(x:Int)(h:isMx x):fits8_D m x=some (true,()):=by
 rcases h with rfl|rfl|rfl|rfl<;>rfl
theorem mx_lt{x:Int}(h:isMx x):8≤x∧x≤64:=by rcases h with rfl|rfl|rfl|rfl<;>omega
theorem clone8_eq(m:Nat)(xs:List Int)(h:xs.length≤1000000):clone8_D m xs=some (xs,()):=by
 unfold clone8_D
 rw[mkA 1 _ true (by omega) (by omega) (by omega),gr1 _ (by simp;omega)]
 rfl
theorem pw816:(2:Int) ^ Min.min (Int.toNat (8:Int)) (Go.IntKind.bits Go.IntKind.u16)=256:=by decide
def by8(t c v i l:Int):List Int:= [t,c,v % 256,v / 256,i % 256,i / 256,l % 256,l / 256]
theorem split8_eq(m:Nat)(t c v i l:Int)(hv:0≤v∧v<65536)(hi:0≤i∧i<65536)(hl:0≤l∧l<65536):split8_D m (t,c,v,i,l,())=some (by8 t c v i l,()):=by
 have e:split8_D m (t,c,v,i,l,())=some ([t,c,Go.IntKind.wrap .u8 v,Go.IntKind.wrap .u8 (Int.fdiv v ((2:Int) ^ Min.min (Int.toNat (8:Int)) (Go.IntKind.bits Go.IntKind.u16))),Go.IntKind.wrap .u8 i,Go.IntKind.wrap .u8 (Int.fdiv i ((2:Int) ^ Min.min (Int.toNat (8:Int)) (Go.IntKind.bits Go.IntKind.u16))),Go.IntKind.wrap .u8 l,Go.IntKind.wrap .u8 (Int.fdiv l ((2:Int) ^ Min.min (Int.toNat (8:Int)) (Go.IntKind.bits Go.IntKind.u16)))],()):=rfl
 rw[e,pw816]
 simp only[wu8,Int.fdiv_eq_ediv_of_nonneg _ (show(0:Int)≤256 by decide),by8]
 rw[show v / 256 % 256=v / 256 by omega,show i / 256 % 256=i / 256 by omega,show l / 256 % 256=l / 256 by omega]
theorem or8(a b:Int)(ha:0≤a∧a≤255)(hb:0≤b∧b≤255):Go.bits Go.BinOp.or Go.IntKind.u16 (Go.IntKind.wrap .u16 a) (Go.IntKind.wrap .u16 (Go.IntKind.wrap .u16 b*(2:Int) ^ Min.min (Int.toNat (8:Int)) (Go.IntKind.bits Go.IntKind.u16)))=a+256*b:=by
 rw[pw816]
 simp only[wu16]
 rw[show a % 65536=a by omega,show b % 65536*256 % 65536=b*256 by omega]
 have:=u16_or8 (y:=a) (x:=b*256) (by omega) (by omega) (by omega) (by omega) (by omega)
 rw[this]
 omega
theorem join8_eq(m:Nat)(a b c d e f g h:Int)(hc:0≤c∧c≤255)(hd:0≤d∧d≤255)(he:0≤e∧e≤255)(hf:0≤f∧f≤255)(hg:0≤g∧g≤255)(hh:0≤h∧h≤255):
  join8_D m [a,b,c,d,e,f,g,h]=some (((a,b,c+256*d,e+256*f,g+256*h,()),0,()),()):=by
 rw[←or8 c d hc hd,←or8 e f he hf,←or8 g h hg hh]
 rfl
theorem join_by8(m:Nat)(t c v i l:Int)(hv:0≤v∧v<65536)(hi:0≤i∧i<65536)(hl:0≤l∧l<65536):join8_D m (by8 t c v i l)=some (((t,c,v,i,l,()),0,()),()):=by
 unfold by8
 rw[join8_eq m t c _ _ _ _ _ _ (by omega) (by omega) (by omega) (by omega) (by omega) (by omega)]
 rw[show v % 256+256*(v / 256)=v by omega,show i % 256+256*(i / 256)=i by omega,show l % 256+256*(l / 256)=l by omega]
structure Req where
 r1:Int
 r2:Int
 r3:Int
 r4:Int
 r5:Int
 O:List Int
 mx:Int
structure Req.Ok (q:Req):Prop where
 h1:0≤q.r1∧q.r1<256
 h2:0≤q.r2∧q.r2<256
 h3:0≤q.r3∧q.r3<65536
 h4:0≤q.r4∧q.r4<65536
 h5:0≤q.r5∧q.r5≤300
 hO:(q.O.length:Int)=if wrB q.r1 q.r5 then q.r5 else 0
 hm:isMx q.mx
def tOf(q:Req)(st:Int)(tg:Bool)(at':Int)(got:List Int)(er e:Int):TrnT:=(st,q.r1,q.r2,q.r3,q.r4,q.r5,q.O,q.mx,tg,at',got,er,e,())
def outNow(q:Req)(at':Int):List Int:=(q.O.drop at'.toNat).take q.mx.toNat
theorem out_next(q:Req)(hq:q.Ok)(at':Int)(h:0≤at'∧at'≤q.O.length):
  (if(q.O.length:Int)<at'+q.mx then(q.O.length:Int)else at'+q.mx)=at'+(min q.mx (q.O.length - at')):=by
 have:=mx_lt hq.hm
 split<;>omega
theorem outNow_len(q:Req)(hq:q.Ok)(at':Int)(h:0≤at'∧at'≤q.O.length):((outNow q at').length:Int)=min q.mx (q.O.length - at'):=by
 have:=mx_lt hq.hm
 unfold outNow
 simp only[List.length_take,List.length_drop];omega
theorem O_len(q:Req)(hq:q.Ok):q.O.length≤300:=by
 have h:=hq.hO
 have:=hq.h5
 split at h<;>omega
theorem next_setup(m:Nat)(q:Req)(hq:q.Ok)(tg:Bool)(at':Int)(got:List Int)(er e:Int):next8_D m (tOf q 1 tg at' got er e)=some (((0,0,13,false,false,0,by8 q.r1 q.r2 q.r3 q.r4 q.r5,()),true,()),()):=by
 have h5:=hq.h5
 unfold next8_D tOf
 simp only[decide_true,cond_true]
 rw[split8_eq m _ _ _ _ _ hq.h3 hq.h4 (by omega)]
 rfl
theorem next_read(m:Nat)(q:Req)(hq:q.Ok)(hr:rdB q.r1 q.r5=true)(tg:Bool)(at':Int)(got:List Int)(er e:Int):next8_D m (tOf q 2 tg at' got er e)=some (((0,0,9,tg,false,q.mx,[],()),true,()),()):=by
 unfold next8_D tOf
 simp only[reads_eq m _ _ _ _ _ hq.h1.1 hq.h1.2,bns,hr]
 rfl
theorem next_write(m:Nat)(q:Req)(hq:q.Ok)(tg:Bool)(at':Int)(got:List Int)(er e:Int)(h:0≤at'∧at'≤q.O.length)(hr:rdB q.r1 q.r5=false):
  next8_D m (tOf q 2 tg at' got er e)=some (((0,0,1,tg,false,0,outNow q at',()),true,()),()):=by
 have hm:=mx_lt hq.hm
 have hO:=O_len q hq
 unfold next8_D tOf
 simp only[reads_eq m _ _ _ _ _ hq.h1.1 hq.h1.2,bns,hr,cond_false]
 rw[wi64 (by omega) (by omega),out_next q hq at' h]
 have e1:(q.O.take (Int.toNat (at'+min q.mx (q.O.length - at')))).drop at'.toNat=outNow q at':=by
  unfold outNow
  rw[List.drop_take]
  have:(Int.toNat (at'+min q.mx (q.O.length - at'))) - at'.toNat=min q.mx.toNat (q.O.length - at'.toNat):=by omega
  rw[this,List.take_eq_take_iff]
  simp only[List.length_drop];omega
 simp only[decide_true,cond_true,cond_false]
 rw[dT h.1,dT (by omega:at'≤at'+min q.mx (q.O.length - at')),dT (by omega:Int.toNat (at'+min q.mx (q.O.length - at'))≤q.O.length),e1,
  clone8_eq m _ (by have:=outNow_len q hq at' h;omega)]
 rfl
theorem next_stat(m:Nat)(q:Req)(hq:q.Ok)(tg:Bool)(at':Int)(got:List Int)(er e:Int):next8_D m (tOf q 3 tg at' got er e)=some (((0,0,bif rdB q.r1 q.r5 then 1 else 9,true,false,0,[],()),true,()),()):=by
 unfold next8_D tOf
 simp only[reads_eq m _ _ _ _ _ hq.h1.1 hq.h1.2,bns]
 cases rdB q.r1 q.r5<;>rfl
theorem next_over(m:Nat)(q:Req)(tg:Bool)(at':Int)(got:List Int)(er e:Int): ∃t,next8_D m (tOf q 4 tg at' got er e)=some ((t,false,()),()):=⟨_,rfl⟩
theorem ans_none(m:Nat)(q:Req)(st:Int)(hs:st=1∨st=2∨st=3)(tg:Bool)(at':Int)(got:List Int)(er e:Int)(h0:0≤er)(h1:er<3):
  ∃st2 e2,ans8_D m (tOf q st tg at' got er e) (4,[],())=some (tOf q st2 tg at' got (er+1) e2,())∧((st2=st∧e2=e∧er+1<3)∨(st2=4∧e2=11)):=by
 have hw:Go.IntKind.wrap .i64 (er+1)=er+1:=wi64 (by omega) (by omega)
 have w3:Go.IntKind.wrap .i64 3=3:=by decide
 by_cases hn:er+1=3
 ·refine⟨4,11,?_,.inr ⟨rfl,rfl⟩⟩
  unfold ans8_D tOf
  rcases hs with rfl|rfl|rfl
  ·unfold ans81_D ans81_J0;simp[hw,hn,w3]
  ·unfold ans82_D ans82_J0;simp[hw,hn,w3]
  ·unfold ans83_D ans83_J0;simp[hw,hn,w3]
 ·refine⟨st,e,?_,.inl ⟨rfl,rfl,by omega⟩⟩
  unfold ans8_D tOf
  rcases hs with rfl|rfl|rfl
  ·unfold ans81_D ans81_J0;simp[hw,hn,w3]
  ·unfold ans82_D ans82_J0;simp[hw,hn,w3]
  ·unfold ans83_D ans83_J0;simp[hw,hn,w3]
theorem ans_stall(m:Nat)(q:Req)(st:Int)(hs:st=1∨st=2∨st=3)(tg:Bool)(at':Int)(got:List Int)(er e:Int):
  ans8_D m (tOf q st tg at' got er e) (3,[],())=some (tOf q 4 tg at' got 0 12,()):=by
 unfold ans8_D tOf
 rcases hs with rfl|rfl|rfl
 ·unfold ans81_D ans81_J0;simp
 ·unfold ans82_D ans82_J0;simp
 ·unfold ans83_D ans83_J0;simp
theorem ans_again(m:Nat)(q:Req)(tg:Bool)(at':Int)(got:List Int)(er e:Int):
  ans8_D m (tOf q 2 tg at' got er e) (6,[],())=some (tOf q 2 tg at' got 0 e,()):=by
 unfold ans8_D tOf ans82_D ans82_J0;simp
theorem ans_setup(m:Nat)(q:Req)(tg:Bool)(at':Int)(got:List Int)(er e:Int):
  ans8_D m (tOf q 1 tg at' got er e) (1,[],())=some (tOf q (if 0<q.r5 then 2 else 3) tg at' got 0 e,()):=by
 unfold ans8_D tOf ans81_D ans81_J0
 by_cases h:0<q.r5<;>simp[h]
theorem ans_write(m:Nat)(q:Req)(hq:q.Ok)(hr:rdB q.r1 q.r5=false)(tg:Bool)(at':Int)(got:List Int)(er e:Int)(h:0≤at'∧at'≤q.O.length):
  ans8_D m (tOf q 2 tg at' got er e) (1,[],())=some (tOf q (if at'+(outNow q at').length=q.O.length then 3 else 2) (!tg) (at'+(outNow q at').length) got 0 e,()):=by
 have hm:=mx_lt hq.hm
 have hO:=O_len q hq
 have hol:=outNow_len q hq at' h
 have ew:(if(q.O.length:Int)<Go.IntKind.wrap .i64 (at'+q.mx)then(q.O.length:Int)else Go.IntKind.wrap .i64 (at'+q.mx))=at'+(outNow q at').length:=by
  rw[wi64 (by omega) (by omega),out_next q hq at' h,hol]
 unfold ans8_D tOf ans82_D ans82_J0
 simp only[reads_eq m _ _ _ _ _ hq.h1.1 hq.h1.2,bns,hr,cond_false]
 rw[ew]
 by_cases hend:at'+((outNow q at').length:Int)=q.O.length
 ·rw[dT hend,if_pos hend];simp
 ·rw[dF hend,if_neg hend];simp
theorem ans_read(m:Nat)(q:Req)(hq:q.Ok)(hr:rdB q.r1 q.r5=true)(tg:Bool)(at':Int)(got b:List Int)(er e:Int)(hb1:(b.length:Int)≤q.mx)(hb2:(got.length:Int)+b.length≤q.r5):
  ans8_D m (tOf q 2 tg at' got er e) (1,b,())=some (tOf q (if(b.length:Int)<q.mx∨((got.length+b.length:Nat):Int)=q.r5 then 3 else 2) (!tg) at' (got++b) 0 e,()):=by
 have hm:=mx_lt hq.hm
 have h5:=hq.h5
 have w5:Go.IntKind.wrap .i64 q.r5=q.r5:=wi64 (by omega) (by omega)
 have wg:Go.IntKind.wrap .i64 ((got.length:Int)+(b.length:Int))=got.length+b.length:=wi64 (by omega) (by omega)
 have tk:got.take (Int.toNat (got.length:Int))=got:=by rw[toNatC,List.take_length]
 have hb1': ¬q.mx<(b.length:Int):=by omega
 have hb2': ¬q.r5<(got.length:Int)+b.length:=by omega
 have g3:growOb 1 (got.length+b.length)=true:=gr1 _ (by omega)
 generalize hs:(if(b.length:Int)<q.mx∨((got.length+b.length:Nat):Int)=q.r5 then(3:Int)else 2)=s
 unfold ans8_D tOf ans82_D ans82_J0
 simp only[reads_eq m _ _ _ _ _ hq.h1.1 hq.h1.2,bns,hr,cond_true,w5,wg,tk,clipT,dF hb1',dF hb2',cond_false]
 by_cases hbz:b.length=0
 ·have:b= []:=List.length_eq_zero_iff.1 hbz
  subst this
  have:s=3:=by rw[←hs,if_pos (.inl (by simp only[List.length_nil];omega))]
  subst this
  simp[show(0:Int)<q.mx by omega]
 ·simp only[dF hbz,cond_false,toNatC,dT (rfl:got.length=got.length),dT (show 0<b.length by omega),g3,Bool.and_self,cond_true]
  by_cases hx1:(b.length:Int)<q.mx
  ·rw[if_pos (.inl hx1)]at hs;subst hs;simp[hx1]
  ·by_cases hx2:((got.length+b.length:Nat):Int)=q.r5
   ·rw[if_pos (.inr hx2)]at hs;subst hs
    have:((got.length:Int)+(b.length:Int))=q.r5:=by omega
    simp[hx1,this]
   ·rw[if_neg (by omega)]at hs;subst hs
    have: ¬((got.length:Int)+(b.length:Int))=q.r5:=by omega
    simp[hx1,this]
theorem ans_stat(m:Nat)(q:Req)(hq:q.Ok)(tg:Bool)(at':Int)(got:List Int)(er e:Int):
  ans8_D m (tOf q 3 tg at' got er e) (1,[],())=some (tOf q 4 tg at' got 0 0,()):=by
 unfold ans8_D tOf ans83_D ans83_J0
 simp only[reads_eq m _ _ _ _ _ hq.h1.1 hq.h1.2,bns]
 cases rdB q.r1 q.r5<;>simp
theorem end_over(m:Nat)(q:Req)(tg:Bool)(at':Int)(got:List Int)(er e:Int)(hg:got.length≤1000):end8_D m (tOf q 4 tg at' got er e)=some ((if e=0 then got else [],e,()),()):=by
 unfold end8_D tOf
 by_cases h:e=0
 ·subst h
  simp[clone8_eq m got (by omega),bns]
 ·simp[h]
theorem ext_size(b:ByteArray)(i j:Nat):(b.extract i j).size≤b.size:=by
 rw[ByteArray.size_extract];omega
end Go.Proofs.Ytngghkoghbpceaa
