/-
  The statement EndpointsIso: the plain law.
  Conditions: none.
-/
import Derived.Test.YtngghkoghbpceaaDoorE7W
import Derived.Test.YtngghkoghbpceaaDoorDoSI
import Derived.Test.YtngghkoghbpceaaDoorWrA
namespace Go.Proofs.YtngghkoghbpceaaDoor
set_option linter.unusedVariables false
set_option linter.unusedSimpArgs false
set_option maxRecDepth 100000
set_option maxHeartbeats 4000000
theorem iT(m:Nat)(b:List Int)(hb:b.length≤1024):tchk6_D m (0,1,1,false,true,0,b,())=some (0,()):=by
 have h: ¬1024<(b.length:Int):=by omega
 unfold tchk6_D tchk6_J0 tchk6_J1 tchk6_J2 tchk6_J3
 simp[h]
theorem offI_eq(m:Nat)(b:List Int)(hb:b.length≤8)(rm:Int)(t:Bool)(tq:List (List Int)):offI_D m b rm 1 true 1 8 t false [] tq=some (.inl ((),(rm,1,true,1,8,t,false,()),[b],tq,())):=by
 unfold offI_D
 rw[dF (by decide: ¬(8:Int)=0),dF (by omega: ¬8<(b.length:Int)),dF (by simp: ¬2≤((([]:List (List Int)).length:Nat):Int)),eclone_eq m b (by omega)]
 simp only[cond_false,Bool.not_true,bnd_some]
 rw[gr24 _ (by simp),dT (by decide:(41:Nat)<nat_lit 45)]
 rfl
theorem iL1(m f:Nat)(hf:1≤f)(l:List (List Int))(x1 i:Int)(sent:List SntT)(f2:Int)(b2:Bool)(rd:Int×List Int×Unit)(rm:Int)(t:Bool)(tq:List (List Int))(room:Int)(t1:Bool)(tk:List (List Int))(w1 w2:List Int)(taken:List (List Int)):
  isoLaw_L1 m f l x1 i sent f2 b2 rd true 0 rm 1 true 1 8 t false tq room 1 false 1 8 t1 false tk 1 true 1 false w1 w2 taken []=some ((l,x1,i,sent,f2,b2,()),rd,(true,0,()),(rm,1,true,1,8,t,false,()),tq,(room,1,false,1,8,t1,false,()),tk,ky,(w1,()),(w2,()),taken,[],()):=by
 obtain⟨f,rfl⟩: ∃g,f=g+1:=⟨f - 1,by omega⟩
 rw[isoLaw_L1]
 unfold isoLaw_J6
 rw[dF (by decide: ¬(8:Int)=0),dF (by simp: ¬(0:Int)<((([]:List (List Int)).length:Nat):Int))]
 rfl
theorem iL2_0(m f:Nat)(hf:1≤f)(l:List (List Int))(x1 i:Int)(rd:Int×List Int×Unit)(rm:Int)(t:Bool)(tq:List (List Int))(room:Int)(t1:Bool)(tk:List (List Int))(w1 w2:List Int)(taken:List (List Int)):
  isoLaw_L2 m f l x1 i rd true 0 rm 1 true 1 8 t false tq room 1 false 1 8 t1 false tk 1 true 1 false w1 w2 taken []=some ((l,x1,i,()),rd,(true,0,()),(rm,1,true,1,8,t,false,()),tq,(room,1,false,1,8,t1,false,()),tk,ky,(w1,()),(w2,()),taken,[],()):=by
 obtain⟨f,rfl⟩: ∃g,f=g+1:=⟨f - 1,by omega⟩
 rw[isoLaw_L2]
 unfold isoLaw_J9
 rw[dF (by decide: ¬(8:Int)=0),dF (by simp: ¬(0:Int)<((([]:List (List Int)).length:Nat):Int))]
 rfl
theorem iL2(m f:Nat)(hf:2≤f)(l:List (List Int))(x1 i:Int)(rd:Int×List Int×Unit)(rm:Int)(t:Bool)(tq:List (List Int))(room:Int)(t1:Bool)(tk:List (List Int))(w1 w2:List Int)(taken:List (List Int))(b:List Int):
  isoLaw_L2 m f l x1 i rd true 0 rm 1 true 1 8 t false tq room 1 false 1 8 t1 false tk 1 true 1 false w1 w2 taken [b]=some ((l,x1,i,()),rd,(true,0,()),(rm,1,true,1,8,t,false,()),tq,(room,1,false,1,8,t1,false,()),tk,ky,(w1,()),(w2,()),taken,[],()):=by
 obtain⟨f,rfl⟩: ∃g,f=g+1:=⟨f - 1,by omega⟩
 rw[isoLaw_L2]
 unfold isoLaw_J9
 rw[dF (by decide: ¬(8:Int)=0),dT (by simp:(0:Int)<((([b]:List (List Int)).length:Nat):Int))]
 have h:=hInI_eq m 0 (by kernel_rfl) rm t tq room t1 tk b
 simp only[cond_false,cond_true,h,bnd_some,sumK_r]
 exact iL2_0 m f (by omega) l x1 i rd rm t tq room t1 tk w1 w2 taken
def wR(x2:Int)(n:Nat):Int:=x2 - n
theorem iW(m:Nat)(b:List Int)(hx:b.length≤8)(rm:Int)(t:Bool)(tq:List (List Int))(x2:Int)(h2:0≤x2∧x2≤255)(t1:Bool)(tk:List (List Int))(htk:(tk.length:Int)≤x2)(w:List Int):
  ∃(e e2:SntT) (tk':List (List Int)) (hit:Bool),doWI_D m 0 1 0 b true 0 1 true 1 false rm 1 true 1 8 t false [] tq (wR x2 tk.length) 1 false 1 8 t1 false tk (w)=some (((1,[],()),[e,e2],()),(true,0,()),ky,(rm,1,true,1,8,t,false,()),[],tq,(wR x2 tk'.length,1,false,1,8,t1,false,()),tk',((w.drop 1).drop 1,()),())∧
   hit=(decide (fE e=0)&&decide (fE e2=0))∧(tk'.length:Int)≤x2∧(tk'=bif hit&&decide ((tk.length:Int)<x2)then tk++ [b]else tk):=by
 obtain⟨e,e2,hit,h,hh⟩:=doWI_eq m 0 (by kernel_rfl) b hx (iT m b (by omega)) rm t [] tq (wR x2 tk.length) t1 tk (by omega) w
 have hd:decide (0<wR x2 tk.length)=decide ((tk.length:Int)<x2):=by
  unfold wR
  by_cases hr:(tk.length:Int)<x2
  ·rw[dT hr,dT (by omega)]
  ·rw[dF hr,dF (by omega)]
 rw[hd]at h
 refine⟨e,e2,(bif hit&&decide ((tk.length:Int)<x2)then tk++ [b]else tk),hit,?_,hh,?_,rfl⟩
 ·rw[h]
  cases hit with
  |false=>rfl
  |true=>
   by_cases hr:(tk.length:Int)<x2
   ·rw[dT hr]
    have:Go.IntKind.wrap .i64 (wR x2 tk.length - 1)=wR x2 (tk++ [b]).length:=by
     rw[wi64 (by unfold wR;omega) (by unfold wR;omega)];unfold wR;simp;omega
    simp only[Bool.and_self,cond_true,this]
   ·rw[dF hr];rfl
 ·cases hit with
  |false=>exact htk
  |true=>
   by_cases hr:(tk.length:Int)<x2
   ·rw[dT hr];simp;omega
   ·rw[dF hr];exact htk
theorem iFin{R:Type}(F:List (List Int)→Option R)(d1 d2 d3:Bool)(tk tk':List (List Int))(b:List Int)(h:tk'=bif (d1&&d2)&&d3 then tk++ [b]else tk):(bif d1 then(bif d2 then(bif d3 then F (tk++ [b])else F tk)else F tk)else F tk)=F tk':=by
 subst h;cases d1<;>cases d2<;>cases d3<;>rfl
theorem iso_step{R:Type}(m:Nat)(hm:3≤m)(l:List (List Int))(hl:l.length≤20)(hb: ∀b∈l,b.length≤8)(x2:Int)(h2:0≤x2∧x2≤255)(i:Nat)(hi:i<l.length)(rm:Int)(t:Bool)(tq:List (List Int))(t1:Bool)(tk:List (List Int))(htk:(tk.length:Int)≤x2)(w1 w2:List Int)(k0:Option R)
  (k1:(List (List Int))→Int→Int→Bool→Int→Int→Int→Bool→Int→Int→Bool→Bool→(List (List Int))→Int→Int→Bool→Int→Int→Bool→Bool→(List (List Int))→Int→Bool→Int→Bool→List Int→List Int→(List (List Int))→(List (List Int))→Option R):
  ∃(tk':List (List Int)) (w1' w2':List Int),(tk'.length:Int)≤x2∧isoLaw_J12 m l x2 (i:Int) true 0 rm 1 true 1 8 t false tq (wR x2 tk.length) 1 false 1 8 t1 false tk 1 true 1 false w1 w2 tk [] k0 k1=k1 l x2 (i:Int) true 0 rm 1 true 1 8 t false tq (wR x2 tk'.length) 1 false 1 8 t1 false tk' 1 true 1 false w1' w2' tk' []:=by
 have hx:=hb _ (getD_mem (d:=([]:List Int)) hi)
 have hI:inB (i:Int) l.length=true:=inT (by omega) (by omega:(i:Int)<(l.length:Nat))
 have hW:Go.IntKind.wrap .i64 x2=x2:=wi64 (by omega) (by omega)
 have hgr:growOb 24 (tk.length+ [l.getD i []].length)=true:=gr24 _ (by simp;omega)
 have e80:decide ((8:Int)=0)=false:=by decide
 have e44:decide ((4:Int)=4)=true:=by decide
 have e11:decide ((1:Int)=1)=true:=by decide
 unfold isoLaw_J12 isoLaw_J2
 rw[hI,toNatC,offI_eq m _ hx]
 simp only[cond_true,bnd_some,sumK_l,decide_true,Bool.not_true,cond_false]
 obtain⟨r,dt,q2,sent,w1',e,hc⟩:=doRI_eq m 0 (by kernel_rfl) _ hx (by kernel_rfl) rm t tq (wR x2 tk.length) t1 tk w1
 simp only[e,bnd_some]
 obtain⟨f1,f2,tk',hit,hw,hh,hk,htk'⟩:=iW m _ hx rm t tq x2 h2 t1 tk htk w2
 refine⟨tk',w1',(w2.drop 1).drop 1,hk,?_⟩
 have s1:inB 0 ([f1,f2]:List SntT).length=true:=inT (by omega) (by simp)
 have s2:inB 1 ([f1,f2]:List SntT).length=true:=inT (by omega) (by simp)
 have s3:decide ((([f1,f2]:List SntT).length:Int)=2)=true:=dT (by simp)
 have s4:decide ((List.getD [f1,f2] (Int.toNat 0) (0,0,0,0,0,0,false,false,0,[],false,0,())).2.2.2.2.2.2.2.2.2.2.2.1=0)=decide (fE f1=0):=rfl
 have s5:decide ((List.getD [f1,f2] (Int.toNat 1) (0,0,0,0,0,0,false,false,0,[],false,0,())).2.2.2.2.2.2.2.2.2.2.2.1=0)=decide (fE f2=0):=rfl
 rcases hc with⟨rfl,rfl,g,rfl,hg⟩|⟨rfl,rfl,g,g2,rfl,hg,hg2⟩|⟨rfl,rfl,rfl,g,g2,rfl,hg,hg2⟩
 ·have a1:decide ((0:Int)<(([l.getD i []]:List (List Int)).length:Nat))=true:=dT (by simp)
  have a2:inB 0 ([g]:List SntT).length=true:=inT (by omega) (by simp)
  have a3:decide ((List.getD [g] (Int.toNat 0) (0,0,0,0,0,0,false,false,0,[],false,0,())).2.2.2.2.2.2.2.2.2.2.2.1=0)=false:=dF hg
  have a4:decide ((([g]:List SntT).length:Int)=2)=false:=dF (by simp)
  unfold isoLaw_J3
  rw[a1,a2,a3,e80]
  simp only[cond_false,cond_true]
  unfold isoLaw_J4
  rw[a4]
  simp only[cond_false,cond_true,decide_true,Bool.not_true]
  rw[iL2 m m (by omega)]
  simp only[bnd_some]
  rw[hI,toNatC,hw]
  simp only[cond_true,bnd_some]
  unfold isoLaw_J10
  rw[s3]
  simp only[decide_true,cond_false,Bool.not_true]
  unfold isoLaw_J11
  rw[s1,s2,s4,s5,hgr,hW]
  simp only[cond_true]
  exact iFin (fun z=>k1 l x2 (i:Int) true 0 rm 1 true 1 8 t false tq (wR x2 tk'.length) 1 false 1 8 t1 false tk' 1 true 1 false w1' ((w2.drop 1).drop 1) z []) _ _ _ tk tk' _ (hh▸htk')
 ·have a0:decide ((0:Int)<((([]:List (List Int)).length:Nat):Int))=false:=dF (by simp)
  have a2:inB 1 ([g,g2]:List SntT).length=true:=inT (by omega) (by simp)
  have a3:decide ((List.getD [g,g2] (Int.toNat 1) (0,0,0,0,0,0,false,false,0,[],false,0,())).2.2.2.2.2.2.2.2.2.2.2.1=0)=false:=dF hg2
  have a4:decide ((([g,g2]:List SntT).length:Int)=2)=true:=dT (by simp)
  unfold isoLaw_J3
  rw[a0,e80]
  simp only[cond_false,cond_true]
  unfold isoLaw_J4
  rw[a4,a2]
  simp only[cond_true]
  rw[a3]
  simp only[cond_false]
  simp only[decide_true,cond_false,Bool.not_true]
  rw[iL1 m m (by omega)]
  simp only[bnd_some]
  rw[hI,toNatC,hw]
  simp only[cond_true,bnd_some]
  unfold isoLaw_J7
  rw[s3]
  simp only[decide_true,cond_false,Bool.not_true]
  unfold isoLaw_J8
  rw[s1,s2,s4,s5,hgr,hW]
  simp only[cond_true]
  exact iFin (fun z=>k1 l x2 (i:Int) true 0 rm 1 true 1 8 t false tq (wR x2 tk'.length) 1 false 1 8 t1 false tk' 1 true 1 false w1' ((w2.drop 1).drop 1) z []) _ _ _ tk tk' _ (hh▸htk')
 ·have a0:decide ((0:Int)<((([]:List (List Int)).length:Nat):Int))=false:=dF (by simp)
  have a2:inB 1 ([g,g2]:List SntT).length=true:=inT (by omega) (by simp)
  have a3:decide ((List.getD [g,g2] (Int.toNat 1) (0,0,0,0,0,0,false,false,0,[],false,0,())).2.2.2.2.2.2.2.2.2.2.2.1=0)=true:=dT hg2
  have a4:decide ((([g,g2]:List SntT).length:Int)=2)=true:=dT (by simp)
  unfold isoLaw_J3
  rw[a0,e80]
  simp only[cond_false,cond_true]
  unfold isoLaw_J4
  rw[a4,a2]
  simp only[cond_true]
  rw[a3]
  simp only[cond_true]
  unfold isoLaw_J5
  simp only[decide_true,cond_false,Bool.not_true]
  rw[hI,toNatC]
  simp only[cond_false,cond_true,decide_true,Bool.not_true]
  rw[iL1 m m (by omega)]
  simp only[bnd_some]
  rw[hI,toNatC,hw]
  simp only[cond_true,bnd_some]
  unfold isoLaw_J7
  rw[s3]
  simp only[decide_true,cond_false,Bool.not_true]
  unfold isoLaw_J8
  rw[s1,s2,s4,s5,hgr,hW]
  simp only[cond_true]
  exact iFin (fun z=>k1 l x2 (i:Int) true 0 rm 1 true 1 8 t false tq (wR x2 tk'.length) 1 false 1 8 t1 false tk' 1 true 1 false w1' ((w2.drop 1).drop 1) z []) _ _ _ tk tk' _ (hh▸htk')
theorem iso_L0(m:Nat)(hm:3≤m)(l:List (List Int))(hl:l.length≤20)(hb: ∀b∈l,b.length≤8)(x2:Int)(h2:0≤x2∧x2≤255)(rm:Int)(t:Bool)(tq:List (List Int))(t1:Bool): ∀(f i:Nat) (tk:List (List Int)) (w1 w2:List Int),i≤l.length→l.length - i<f→(tk.length:Int)≤x2→
  ∃tk':List (List Int),(tk'.length:Int)≤x2∧isoLaw_L0 m f l x2 (i:Int) true 0 rm 1 true 1 8 t false tq (wR x2 tk.length) 1 false 1 8 t1 false tk 1 true 1 false w1 w2 tk []=some (.inr ((),(rm,1,true,1,8,t,false,()),tq,(wR x2 tk'.length,1,false,1,8,t1,false,()),tk',tk',[],())):=by
 intro f
 induction f with
 |zero=>intro i tk w1 w2 h1 h3;omega
 |succ f ih=>
  intro i tk w1 w2 h1 h3 h4
  rw[isoLaw_L0]
  by_cases hi:i<l.length
  ·rw[dT (by omega:(i:Int)<(l.length:Nat))]
   simp only[cond_true]
   obtain⟨tk2,w3,w4,h5,h6⟩:=iso_step m hm l hl hb x2 h2 i hi rm t tq t1 tk h4 w1 w2 (some (.inl ((false,()),()))) (fun d6361 d6362 d6363 d6364 d6365 d6366 d6367 d6368 d6369 d6370 d6371 d6372 d6373 d6374 d6375 d6376 d6377 d6378 d6379 d6380 d6381 d6382 d6383 d6384 d6385 d6386 d6387 d6388 d6389=>isoLaw_L0 m f d6361 d6362 (Go.IntKind.wrap .i64 (d6363+1)) d6364 d6365 d6366 d6367 d6368 d6369 d6370 d6371 d6372 d6373 d6374 d6375 d6376 d6377 d6378 d6379 d6380 d6381 d6382 d6383 d6384 d6385 d6386 d6387 d6388 d6389)
   obtain⟨tk',h7,h8⟩:=ih (i+1) tk2 w3 w4 (by omega) (by omega) h5
   refine⟨tk',h7,?_⟩
   refine h6.trans ?_
   rw[wS i (by omega)]
   exact h8
  ·rw[dF (by omega: ¬(i:Int)<(l.length:Nat))]
   exact⟨tk,h4,rfl⟩
theorem isoLaw_true(l:List (List Int))(x1:List Int)(x2:Int)(h2:0≤x2∧x2≤255):isoLaw_D 400 l x1 x2=some (true,()):=by
 unfold isoLaw_D isoLaw_J0
 rcases few7_eq 400 l (by omega)with h|⟨h,hl,hb⟩
 ·rw[h];rfl
 rw[h]
 simp only[bnd_some,Bool.not_true,cond_false]
 by_cases hx:60<(x1.length:Int)
 ·rw[dT hx];rfl
 rw[dF hx]
 simp only[cond_false]
 obtain⟨w,hw,hwire⟩:=wire6_eq 400 x1 (by omega) (by omega)
 have hW:Go.IntKind.wrap .i64 x2=x2:=wi64 (by omega) (by omega)
 have c1:Go.IntKind.wrap .u8 (1+Int.tmod 0 15)=1:=by decide
 have c2:Go.IntKind.wrap .u8 (1+Int.tmod 0 3)=1:=by decide
 have c3:Go.IntKind.wrap .i64 (1+Int.tmod (Go.IntKind.wrap .i64 7) 1024)=8:=by decide
 obtain⟨tk,h5,e⟩:=iso_L0 400 (by omega) l hl hb x2 h2 0 false [] false 400 0 [] w w (by omega) (by omega) (by simp;omega)
 have e':isoLaw_L0 400 400 l x2 0 true 0 0 1 true 1 8 false false [] x2 1 false 1 8 false false [] 1 true 1 false w w [] []=some (.inr ((),(0,1,true,1,8,false,false,()),[],(wR x2 tk.length,1,false,1,8,false,false,()),tk,tk,[],())):=by simpa[wR]using e
 simp only[c1,c2,c3,hW]
 have hJ1: ∀(R:Type) (k0:Int→Bool→Option R) (k1:Option R),isoLaw_J1 400 l x1 x2 true 0 0 0 1 true 1 8 false false [] 0 1 false 1 8 false false [] k0 k1=k1:=by
  intro R k0 k1
  unfold isoLaw_J1
  rw[hW,dF (by omega: ¬x2<0),dF (by omega: ¬4096<x2)]
  rfl
 rw[hJ1]
 simp only[hwire,bnd_some]
 rw[e']
 simp only[bnd_some,sumK_r]
 unfold isoLaw_J13
 have e80:decide ((8:Int)=0)=false:=by decide
 rw[e80,dT (by omega:(0:Int)≤(tk.length:Nat)),dT (by omega:((tk.length:Nat):Int)≤(tk.length:Nat)),toNatC,dT (Nat.le_refl _),List.take_length,lists7_self 400 tk (by omega) (by omega)]
 rfl
end Go.Proofs.YtngghkoghbpceaaDoor
