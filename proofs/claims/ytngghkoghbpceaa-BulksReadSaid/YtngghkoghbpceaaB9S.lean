/-
  Law 09, plain facts for transfers that read: the reference's packets, Start, Answer, End, begins.
  Conditions: none.
-/
import Derived.Test.YtngghkoghbpceaaB9r
import Derived.Test.YtngghkoghbpceaaB9Q
import Derived.Test.YtngghkoghbpceaaPM
namespace Go.Proofs.Ytngghkoghbpceaa
set_option linter.unusedVariables false
set_option linter.unusedSimpArgs false
set_option maxRecDepth 100000
set_option maxHeartbeats 4000000
def parts(b:List Int)(n:Nat):List (List Int):=(List.range n).map fun i=>(b.drop (8*i)).take 8
theorem parts_succ(b:List Int)(n:Nat):parts b (n+1)=parts b n++ [(b.drop (8*n)).take 8]:=by
 unfold parts;rw[List.range_succ,List.map_append];rfl
theorem parts_flat(b:List Int)(n:Nat):(parts b n).flatten=b.take (8*n):=by
 induction n with
 |zero=>simp[parts]
 |succ n ih=>
  rw[parts_succ,List.flatten_append,ih,show 8*(n+1)=8*n+8 by omega,List.take_add]
  simp only[List.flatten_cons,List.flatten_nil,List.append_nil]
theorem parts_len(b:List Int)(n:Nat):(parts b n).length=n:=by simp[parts]
theorem parts_full(b:List Int)(n:Nat)(h:8*n≤b.length): ∀x∈parts b n,x.length=8:=by
 intro x hx
 obtain⟨i,hi,rfl⟩:=List.mem_map.1 hx
 have:=List.mem_range.1 hi
 simp;omega
theorem rcut_J0_eq{R:Type}(m:Nat)(b:List Int)(hb:b.length≤60)(many:Int)(i:Nat)(hi:8*i≤b.length)(acc:List (List Int))(ha:acc.length≤100)(k0:List (List Int)→Option R):
  rcut_J0 m b 8 true many (i:Int) acc k0=k0 (acc++ [(b.drop (8*i)).take 8]):=by
 have w1:Go.IntKind.wrap .i64 ((i:Int)*8)=((8*i:Nat):Int):=by rw[wi64 (by omega) (by omega)];omega
 have w2:Go.IntKind.wrap .i64 (Go.IntKind.wrap .i64 ((i:Int)+1)*8)=((8*i+8:Nat):Int):=by rw[wS i (by omega),wi64 (by omega) (by omega)];omega
 have hg: ∀x:List Int,growOb 24 (acc.length+ [x].length)=true:=fun x=>gr24 _ (by simp;omega)
 unfold rcut_J0
 rw[w1,w2]
 by_cases h:b.length<8*i+8
 ·rw[dT (by omega:(b.length:Int)<((8*i+8:Nat):Int)),dT (by omega:(0:Int)≤((8*i:Nat):Int)),dT (by omega:((8*i:Nat):Int)≤(b.length:Int)),toNatC,toNatC,dT (Nat.le_refl _),hg,List.take_length]
  rw[List.take_of_length_le (by simp;omega:(b.drop (8*i)).length≤8)]
  rfl
 ·rw[dF (by omega: ¬(b.length:Int)<((8*i+8:Nat):Int)),dT (by omega:(0:Int)≤((8*i:Nat):Int)),dT (by omega:((8*i:Nat):Int)≤((8*i+8:Nat):Int)),toNatC (8*i+8),toNatC (8*i),dT (by omega:8*i+8≤b.length)]
  simp only[cond_false,Bool.and_self,cond_true,hg]
  rw[List.drop_take,show 8*i+8 - 8*i=8 by omega]
theorem rcut_L0_eq(m:Nat)(b:List Int)(hb:b.length≤60)(many:Nat)(hm:8*(many - 1)≤b.length)(hmm:many≤10): ∀(f i:Nat),i≤many→many - i<f→
  rcut_L0 m f b 8 true (many:Int) (i:Int) (parts b i)=some ((b,8,true,(many:Int),()),parts b many,()):=by
 intro f
 induction f with
 |zero=>intro i h1 h2;omega
 |succ f ih=>
  intro i h1 h2
  rw[rcut_L0]
  by_cases h:i<many
  ·rw[dT (by omega:(i:Int)<(many:Int)),rcut_J0_eq m b hb _ i (by omega) _ (by rw[parts_len];omega),←parts_succ,wS i (by omega)]
   exact ih (i+1) (by omega) (by omega)
  ·have:i=many:=by omega
   subst this
   rw[dF (by omega: ¬(i:Int)<(i:Int))]
   rfl
theorem cut_uniq: ∀(F G:List (List Int)) (c d:List Int),(∀x∈F,x.length=8)→(∀x∈G,x.length=8)→c.length<8→d.length<8→F.flatten++c=G.flatten++d→F++ [c]=G++ [d]
 | [],[],c,d,_,_,_,_,h=>by simpa using h
 | [],y::G,c,d,_,hG,hc,_,h=>by
  have h1:=congrArg List.length h
  have h2:=hG y (by simp)
  simp at h1;omega
 |x::F,[],c,d,hF,_,_,hd,h=>by
  have h1:=congrArg List.length h
  have h2:=hF x (by simp)
  simp at h1;omega
 |x::F,y::G,c,d,hF,hG,hc,hd,h=>by
  simp only[List.flatten_cons,List.append_assoc]at h
  obtain⟨h1,h2⟩:=List.append_inj h (by rw[hF x (by simp),hG y (by simp)])
  subst h1
  have:=cut_uniq F G c d (fun z hz=>hF z (by simp[hz])) (fun z hz=>hG z (by simp[hz])) hc hd h2
  simp only[List.cons_append,this]
theorem rcut_eq(m:Nat)(hm:20≤m)(b:List Int)(hb:b.length≤60):rcut_D m b=some (cut9 b 8 true,()):=by
 obtain⟨G,d,hG1,hG2,hG3,hG4,_⟩:=cut9_spec b 8 (by omega)
 have key: ∀(F:List (List Int)) (c:List Int),(∀x∈F,x.length=8)→c.length<8→F.flatten++c=b→F++ [c]=cut9 b 8 true:=by
  intro F c h1 h2 h3
  rw[hG1]
  exact cut_uniq F G c d h1 hG2 h2 hG3 (h3.trans hG4.symm)
 unfold rcut_D
 by_cases h0:b.length=0
 ·have hb0:b= []:=List.eq_nil_of_length_eq_zero h0
  have e:=rcut_L0_eq m b hb 1 (by omega) (by omega) m 0 (by omega) (by omega)
  have e':rcut_L0 m m b 8 true 1 0 []=some ((b,8,true,1,()),parts b 1,()):=e
  rw[dT (by omega:(b.length:Int)=0),e']
  simp only[cond_true,bnd_some]
  unfold rcut_J1
  rw[dF (by omega: ¬(0:Int)<(b.length:Int))]
  simp only[cond_true,cond_false]
  rw[←key [] [] (by simp) (by simp) (by simp[hb0]),hb0]
  rfl
 ·have hw:Go.IntKind.wrap .i64 (Int.tdiv (Go.IntKind.wrap .i64 (Go.IntKind.wrap .i64 ((b.length:Int)+8) - 1)) 8)=(((b.length+7) / 8:Nat):Int):=by
   rw[wi64 (x:=(b.length:Int)+8) (by omega) (by omega),wi64 (x:=(b.length:Int)+8 - 1) (by omega) (by omega),Int.tdiv_eq_ediv_of_nonneg (by omega),wi64 (by omega) (by omega)]
   omega
  generalize hmn:(b.length+7) / 8=n at hw
  have e:=rcut_L0_eq m b hb n (by omega) (by omega) m 0 (by omega) (by omega)
  have e':rcut_L0 m m b 8 true (n:Int) 0 []=some ((b,8,true,(n:Int),()),parts b n,()):=e
  have hw2:Go.IntKind.wrap .i64 ((n:Int)*8)=((8*n:Nat):Int):=by rw[wi64 (by omega) (by omega)];omega
  rw[dF (by omega: ¬(b.length:Int)=0),hw,e']
  simp only[cond_false,bnd_some]
  unfold rcut_J1
  rw[dT (by omega:(0:Int)<(b.length:Int)),hw2]
  simp only[cond_true]
  by_cases hf:8*n=b.length
  ·rw[dT (by omega:((8*n:Nat):Int)=(b.length:Int)),gr24 _ (by rw[parts_len];simp;omega)]
   simp only[cond_true]
   rw[key (parts b n) [] (parts_full b n (by omega)) (by simp) (by rw[parts_flat,hf];simp)]
  ·rw[dF (by omega: ¬((8*n:Nat):Int)=(b.length:Int))]
   simp only[cond_false]
   obtain⟨k,rfl⟩: ∃k,n=k+1:=⟨n - 1,by omega⟩
   rw[parts_succ]
   have ht:(b.drop (8*k)).take 8=b.drop (8*k):=List.take_of_length_le (by simp;omega)
   rw[ht,key (parts b k) (b.drop (8*k)) (parts_full b k (by omega)) (by simp;omega) (by rw[parts_flat,List.take_append_drop])]
abbrev TrT:Type:=Bool×Int×Int×Bool×List Int×Bool×Int×List (List Int)×List Int×Int×Int×Bool×Int×Unit
def tR(L:Int)(tog:Bool)(got:List Int)(er:Int)(over:Bool)(e:Int):TrT:=(true,1,8,tog,[],false,L,[],got,(got.length:Nat),er,over,e,())
theorem bstartR_eq(m:Nat)(tog:Bool)(L:Int)(h0:0<L)(h1:L≤65536):bstart_D m (true,1,8,tog,[],false,L,())=some ((tR L tog [] 0 false 0,0,()),()):=by
 unfold bstart_D bstart_J0 bstart_J1 bstart_J2
 simp only[show decide ((1:Int)<1)=false by decide,show decide ((15:Int)<1)=false by decide,show decide ((8:Int)<1)=false by decide,show decide ((1024:Int)<8)=false by decide,cond_false,show decide ((0:Int)<(([]:List Int).length:Nat))=false from dF (by simp),show decide ((65536:Int)<(([]:List Int).length:Nat))=false from dF (by simp),dF (by omega: ¬L<0),dF (by omega: ¬65536<L),dF (by omega: ¬L=0),Bool.not_true,cond_true]
 rfl
theorem bansR_none(m:Nat)(L:Int)(tog:Bool)(got:List Int)(er:Int)(dt:List Int):banswerR_D m (tR L tog got er false 0) (4,dt,())=some (bif decide (Go.IntKind.wrap .i64 (er+1)=3)then tR L tog got (Go.IntKind.wrap .i64 (er+1)) true 11 else tR L tog got (Go.IntKind.wrap .i64 (er+1)) false 0,()):=by
 unfold banswerR_D banswerR_J0 tR
 simp only[show decide ((8:Int)=0)=false by decide,show decide ((4:Int)=0)=false by decide,show decide ((6:Int)<4)=false by decide,cond_false,decide_true,cond_true]
 cases decide (Go.IntKind.wrap .i64 (er+1)=3)<;>rfl
theorem bansR_again(m:Nat)(L:Int)(tog:Bool)(got:List Int)(er:Int)(dt:List Int):banswerR_D m (tR L tog got er false 0) (6,dt,())=some (tR L tog got 0 false 0,()):=by
 unfold banswerR_D banswerR_J0 tR
 simp only[show decide ((8:Int)=0)=false by decide,show decide ((6:Int)=0)=false by decide,show decide ((6:Int)<6)=false by decide,show decide ((6:Int)=4)=false by decide,show decide ((6:Int)=3)=false by decide,show decide ((6:Int)=5)=false by decide,show decide ((6:Int)=1)=false by decide,cond_false,cond_true]
theorem bansR_done(m:Nat)(L:Int)(tog:Bool)(got b:List Int)(er:Int)(hb:b.length≤8)(hl:((got.length+b.length:Nat):Int)<L)(hL:L≤65536):banswerR_D m (tR L tog got er false 0) (1,b,())=some (bif decide (b.length<8)then tR L (!tog) (got++b) 0 true 0 else tR L (!tog) (got++b) 0 false 0,()):=by
 have w1:Go.IntKind.wrap .i64 ((got.length:Int)+(b.length:Int))=((got.length+b.length:Nat):Int):=by rw[wi64 (by omega) (by omega)];omega
 have hg:growOb 1 (got.length+b.length)=true:=gr1 _ (by omega)
 unfold banswerR_D banswerR_J0 tR
 simp only[show decide ((8:Int)=0)=false by decide,show decide ((1:Int)=0)=false by decide,show decide ((6:Int)<1)=false by decide,show decide ((1:Int)=4)=false by decide,show decide ((1:Int)=3)=false by decide,show decide ((1:Int)=5)=false by decide,cond_false,decide_true,cond_true,dF (by omega: ¬(8:Int)<(b.length:Int)),w1,dF (by omega: ¬L<((got.length+b.length:Nat):Int)),clipT,takeAll]
 by_cases h0:b.length=0
 ·have hb0:b= []:=List.eq_nil_of_length_eq_zero h0
  subst hb0
  simp only[List.length_nil,decide_true,cond_true,List.append_nil,dT (by omega:(0:Nat)<8),dT (by decide:((0:Nat):Int)<8)]
 ·rw[dF h0,toNatC,dT (rfl:got.length=got.length),dT (by omega:0<b.length),hg]
  simp only[cond_false,Bool.and_self,cond_true,List.length_append]
  by_cases h8:b.length<8
  ·rw[dT h8,dT (by omega:(b.length:Int)<8)];rfl
  ·rw[dF h8,dF (by omega: ¬(b.length:Int)<8),dF (by omega: ¬((got.length+b.length:Nat):Int)=L)];rfl
theorem bendR_eq(m:Nat)(L:Int)(tog:Bool)(got:List Int)(er e:Int)(over:Bool)(hg:got.length≤1000000):bend_D m (tR L tog got er over e)=some (bif over then((e,got,((got.length:Nat):Int),()),true,())else((0,[],0,()),false,()),()):=by
 unfold bend_D tR
 cases over
 ·rfl
 ·simp only[Bool.not_true,cond_false,bclone_eq m got hg,bnd_some]
  rfl
theorem btogR_eq(m:Nat)(L:Int)(tog:Bool)(got:List Int)(er e:Int)(over:Bool):btog_D m (tR L tog got er over e)=some (tog,()):=rfl
theorem bnextR_open(m:Nat)(L:Int)(tog:Bool)(got:List Int)(er:Int):bnextR_D m (tR L tog got er false 0)=some (.inl (((0,1,tog,false,8,[],()),()),())):=by
 unfold bnextR_D tR
 simp only[show decide ((8:Int)=0)=false by decide,cond_false,cond_true]
theorem bnextR_over(m:Nat)(L:Int)(tog:Bool)(got:List Int)(er e:Int):bnextR_D m (tR L tog got er true e)=some (.inr (((0,0,0,false,false,0,[],()),()),())):=rfl
theorem beg9_eq(m:Nat)(a b:List Int):beg9_D m (a++b) a=some (true,()):=by
 unfold beg9_D beg9_J0
 rw[dT (by rw[List.length_append];omega:(a.length:Int)≤((a++b).length:Nat)),dT (by omega:(0:Int)≤(a.length:Nat)),toNatC,dT (by rw[List.length_append];omega:a.length≤(a++b).length),List.take_left',dT rfl]
 ·rfl
 ·rfl
end Go.Proofs.Ytngghkoghbpceaa
