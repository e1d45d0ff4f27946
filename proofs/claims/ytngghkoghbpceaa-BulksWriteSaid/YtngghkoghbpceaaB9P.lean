/-
  Law 09, plain facts: copies, lists, Join, Cut.
  Conditions: none.
-/
import Derived.Test.YtngghkoghbpceaaB9t
import Derived.Test.YtngghkoghbpceaaDo9A
namespace Go.Proofs.Ytngghkoghbpceaa
set_option linter.unusedVariables false
set_option linter.unusedSimpArgs false
set_option maxRecDepth 100000
set_option maxHeartbeats 2000000
theorem lives9_true:lives9_D 2000=some (true,()):=by kernel_rfl
theorem bclone_eq(m:Nat)(xs:List Int)(h:xs.length≤1000000):bclone_D m xs=some (xs,()):=by
 unfold bclone_D
 rw[mkA 1 _ true (by omega) (by omega) (by omega),gr1 _ (by simp;omega)]
 rfl
theorem lst9_self_L(m:Nat)(a:List (List Int))(ha:a.length≤1000000): ∀(f i:Nat),i≤a.length→a.length - i<f→lst9_L0 m f a a (i:Int)=some (.inr ((),())):=by
 intro f
 induction f with
 |zero=>intro i h1 h2;omega
 |succ f ih=>
  intro i h1 h2
  rw[lst9_L0]
  by_cases h:i<a.length
  ·rw[dT (show(i:Int)<(a.length:Int)by omega),inT (by omega) (by omega:(i:Int)<(a.length:Nat)),wS i (by omega),ih (i+1) (by omega) (by omega)]
   simp
  ·rw[dF (show ¬(i:Int)<(a.length:Int)by omega)]
   rfl
theorem lst9_self(m:Nat)(a:List (List Int))(ha:a.length<m)(hb:a.length≤1000000):lst9_D m a a=some (0,()):=by
 unfold lst9_D
 rw[lst9_self_L m a hb m 0 (by omega) (by omega) |> (fun h=>(by simpa using h:lst9_L0 m m a a (0:Int)=some (.inr ((),()))))]
 simp[bnd,sumK]
def jn(mx:Int):List (List Int)→List Int→List (List Int)→List (List Int)×List Int
 |acc,rest,[]=>(acc,rest)
 |acc,rest,b::l=>if(b.length:Int)<mx then jn mx (acc++ [rest++b]) [] l else jn mx acc (rest++b) l
theorem jn_len(mx:Int): ∀(l:List (List Int)) (acc:List (List Int)) (rest:List Int),(∀b∈l,b.length≤60)→(jn mx acc rest l).1.length≤acc.length+l.length∧(jn mx acc rest l).2.length≤rest.length+60*l.length
 | [],acc,rest,_=>by simp[jn]
 |b::l,acc,rest,h=>by
  have hb:=h b (by simp)
  have hl:=fun c hc=>h c (List.mem_cons_of_mem _ hc)
  unfold jn
  split
  ·have:=jn_len mx l (acc++ [rest++b]) [] hl
   simp at this ⊢;omega
  ·have:=jn_len mx l acc (rest++b) hl
   simp at this ⊢;omega
theorem bjoin_L1_eq(m:Nat)(mx:Int)(l:List (List Int))(hl: ∀b∈l,b.length≤60)(hn:l.length≤200): ∀(f i:Nat) (acc:List (List Int)) (rest:List Int),i≤l.length→l.length - i<f→acc.length≤i→rest.length≤60*i→
  bjoin_L1 m f mx l (l.length:Int) (i:Int) acc rest=some ((),((jn mx acc rest (l.drop i)).1,((jn mx acc rest (l.drop i)).2,()))):=by
 intro f
 induction f with
 |zero=>intro i acc rest h1 h2;omega
 |succ f ih=>
  intro i acc rest h1 h2 h3 h4
  rw[bjoin_L1]
  by_cases h:i<l.length
  ·have hb:=hl _ (getD_mem (d:= []) h)
   rw[dT (show(i:Int)<(l.length:Int)by omega)]
   unfold bjoin_J1
   rw[inT (by omega) (by omega:(i:Int)<(l.length:Nat)),toNatC,wS i (by omega),gr1 _ (by omega),drop_cons (d:= []) h]
   simp only[cond_true,jn]
   by_cases hc:((l.getD i []).length:Int)<mx
   ·rw[dT hc,if_pos hc,bclone_eq m _ (by simp only[List.length_append,List.length_cons,List.length_nil];omega)]
    simp only[cond_true,bnd_some]
    rw[gr24 _ (by simp only[List.length_append,List.length_cons,List.length_nil];omega),ih (i+1) _ [] (by omega) (by omega) (by simp only[List.length_append,List.length_cons,List.length_nil];omega) (by simp)]
    rfl
   ·rw[dF hc,if_neg hc,ih (i+1) acc _ (by omega) (by omega) (by omega) (by simp only[List.length_append,List.length_cons,List.length_nil];omega)]
    rfl
  ·rw[dF (show ¬(i:Int)<(l.length:Int)by omega),List.drop_eq_nil_of_le (by omega)]
   rfl
theorem bjoin_L0_eq(m:Nat)(mx:Int)(l0 l:List (List Int))(hn:l.length≤200): ∀(f i:Nat),i≤l.length→l.length - i<f→
  bjoin_L0 m f l0 mx l (l.length:Int) (i:Int)=some (if ∃b∈l.drop i,mx<(b.length:Int)then .inl ((3,()),())else .inr ((l0,(mx,())),())):=by
 intro f
 induction f with
 |zero=>intro i h1 h2;omega
 |succ f ih=>
  intro i h1 h2
  rw[bjoin_L0]
  by_cases h:i<l.length
  ·rw[dT (show(i:Int)<(l.length:Int)by omega),inT (by omega) (by omega:(i:Int)<(l.length:Nat)),toNatC,wS i (by omega),drop_cons (d:= []) h,ih (i+1) (by omega) (by omega)]
   by_cases hc:mx<((l.getD i []).length:Int)
   ·rw[dT hc,if_pos (show ∃b∈l.getD i []::l.drop (i+1),mx<(b.length:Int)from⟨_,List.mem_cons_self ..,hc⟩)];rfl
   ·rw[dF hc]
    simp only[cond_true,cond_false,List.mem_cons,exists_eq_or_imp,hc,false_or]
  ·rw[dF (show ¬(i:Int)<(l.length:Int)by omega),List.drop_eq_nil_of_le (by omega)]
   simp
theorem bjoin_eq(mx:Int)(l:List (List Int))(hn:l.length≤200)(hl: ∀b∈l,b.length≤60)(h1:1≤mx)(h2:mx≤64):
  bjoin_D 2000 l mx=some (if ∃b∈l,mx<(b.length:Int)then(([],[],3,()),())else(((jn mx [] [] l).1,(jn mx [] [] l).2,0,()),())):=by
 unfold bjoin_D bjoin_J0
 rw[dF (show ¬mx<1 by omega),dF (show ¬1024<mx by omega)]
 simp only[cond_false]
 have e0:bjoin_L0 2000 2000 l mx l (l.length:Int) 0=some (if ∃b∈l,mx<(b.length:Int)then .inl ((3,()),())else .inr ((l,(mx,())),())):=bjoin_L0_eq 2000 mx l l hn 2000 0 (by omega) (by omega)
 rw[e0]
 by_cases hc: ∃b∈l,mx<(b.length:Int)
 ·rw[if_pos hc,if_pos hc];rfl
 ·rw[if_neg hc,if_neg hc]
  have e1:bjoin_L1 2000 2000 mx l (l.length:Int) 0 [] []=some ((),((jn mx [] [] l).1,((jn mx [] [] l).2,()))):=bjoin_L1_eq 2000 mx l hl hn 2000 0 [] [] (by omega) (by omega) (by simp) (by simp)
  have hj:=jn_len mx l [] [] hl
  simp only[List.length_nil]at hj
  simp only[bnd_some,sumK_r,e1,clipT,cond_true]
  rw[bclone_eq _ _ (by omega)]
  simp only[bnd_some,toNatC,List.take_length]
theorem bcutB_eq1(m:Nat)(acc:List (List Int))(x:List Int)(ha:acc.length≤1000000)(hx:x.length≤1000000):bcutB m acc (x,())=some (acc++ [x]):=by
 unfold bcutB cutB_J1
 simp only
 rw[mkA 1 _ true (by omega) (by omega) (by omega),gr1 _ (by simp;omega),gr24 _ (by simp;omega)]
 rfl
theorem yk_ints(m:Nat){R:Type}(V:Value)(g:List (List Int))(xs:List Int)(c:Option Nat)(K:List (List Int)→Option R):ykF (bcutB m) bcutP R V g [SV.ints .u8 xs c] K=bnd (bcutB m g (xs,())) K:=rfl
theorem yk_nil(m:Nat){R:Type}(V:Value)(g:List (List Int))(K:List (List Int)→Option R):ykF (bcutB m) bcutP R V g [SV.d (D.v (Go.Value.slice Option.none (0:Nat) (0:Nat)))] K=bnd (bcutB m g ([],())) K:=rfl
def chk9(k:Nat):Nat→List Int→List (List Int)×List Int
 |0,b=>([],b)
 |n+1,b=>if k<b.length then(b.take k::(chk9 k n (b.drop k)).1,(chk9 k n (b.drop k)).2)else([],b)
theorem chk9_facts(k:Nat)(hk:1≤k): ∀(n:Nat) (b:List Int),b.length≤n→(chk9 k n b).2.length≤k∧(∀c∈(chk9 k n b).1,c.length≤k)∧(chk9 k n b).1.length+(chk9 k n b).2.length≤b.length
 |0,b,h=>by simp[chk9];omega
 |n+1,b,h=>by
  unfold chk9
  split
  ·rename_i hlt
   obtain⟨h1,h2,h3⟩:=chk9_facts k hk n (b.drop k) (by simp;omega)
   refine⟨h1,fun c hc=> ?_,?_⟩
   ·rcases List.mem_cons.1 hc with rfl|hc
    ·simp;omega
    ·exact h2 c hc
   ·simp only[List.length_drop,List.length_cons]at h3 ⊢;omega
  ·exact⟨by simp;omega,by simp,by simp⟩
theorem pcs_L0_eq(m:Nat)(V:Value)(full z:Bool)(k:Nat)(hk:1≤k): ∀(f n:Nat) (b:List Int) (acc:List (List Int)),b.length≤n→n<f→b.length≤1000000→acc.length+b.length≤1000000→
  pcs_L0 (ykF (bcutB m) bcutP) m f V full b (k:Int) z acc=some (((V,(full,())),(((chk9 k n b).2,()),(((k:Int),()),((z,()),())))),acc++(chk9 k n b).1):=by
 intro f
 induction f with
 |zero=>intro n b acc h1 h2;omega
 |succ f ih=>
  intro n b acc h1 h2 h3 h4
  rw[pcs_L0]
  by_cases h:k<b.length
  ·obtain⟨n,rfl⟩: ∃n',n=n'+1:=⟨n - 1,by omega⟩
   rw[dT (show(k:Int)<(b.length:Int)by omega),dT (show(0:Int)≤(k:Int)by omega),dT (show(k:Int)≤(k:Int)by omega),toNatC,dT (show k≤b.length by omega),yk_ints,bcutB_eq1 m acc _ (by omega) (by simp;omega)]
   simp only[cond_true,bnd_some,Bool.and_true]
   rw[ih n (b.drop k) _ (by simp;omega) (by omega) (by simp;omega) (by simp;omega)]
   simp only[chk9,if_pos h,List.append_assoc,List.singleton_append]
  ·rw[dF (show ¬(k:Int)<(b.length:Int)by omega)]
   have e:chk9 k n b=([],b):=by cases n<;>simp[chk9,h]
   rw[e];simp
def cut9(b:List Int)(k:Nat)(z:Bool):List (List Int):=(chk9 k b.length b).1++ [(chk9 k b.length b).2]++if z&&(decide (0<b.length)&&decide (b.length % k=0))then [[]]else []
theorem tmodN(a k:Nat):Int.tmod (a:Int) (k:Int)=((a % k:Nat):Int):=by rw[Int.tmod_eq_emod_of_nonneg (by omega)];omega
theorem pcs_Y_eq(m:Nat)(V:Value)(z:Bool)(k:Nat)(hk:1≤k)(b:List Int)(hb:b.length≤900000)(hm:b.length<m):pcs_Y (ykF (bcutB m) bcutP) m V b (k:Int) z []=some (cut9 b k z):=by
 obtain⟨h1,h2,h3⟩:=chk9_facts k hk b.length b (Nat.le_refl _)
 have hl: ∀full,pcs_L0 (ykF (bcutB m) bcutP) m m V full b (k:Int) z []=some (((V,(full,())),(((chk9 k b.length b).2,()),(((k:Int),()),((z,()),())))),(chk9 k b.length b).1):=fun full=>by
  have:=pcs_L0_eq m V full z k hk m b.length b [] (Nat.le_refl _) hm (by omega) (by simp;omega)
  simpa using this
 have ht: ∀xs:List Int,List.take (Int.toNat (xs.length:Int)) xs=xs:=fun xs=>by rw[toNatC,List.take_length]
 unfold pcs_Y cut9
 by_cases hz:0<b.length
 ·rw[dT (show(0:Int)<(b.length:Int)by omega),dF (show ¬(k:Int)=0 by omega)]
  simp only[cond_true,Bool.not_false,hl,bnd_some,clipT,yk_ints,yk_nil,ht,tmodN,hz,decide_true,Bool.true_and]
  rw[bcutB_eq1 m _ _ (by omega) (by omega)]
  simp only[bnd_some]
  have e:(((b.length % k:Nat):Int)=0)=(b.length % k=0):=propext ⟨fun h=>by omega,fun h=>by omega⟩
  simp only[e]
  cases z with
  |false=>simp
  |true=>
   by_cases hf:b.length % k=0
   ·simp only[hf,decide_true,cond_true,Bool.and_self,if_true]
    rw[bcutB_eq1 m _ _ (by simp;omega) (by simp)]
    rfl
   ·simp[hf]
 ·rw[dF (show ¬(0:Int)<(b.length:Int)by omega)]
  simp only[cond_false,hl,bnd_some,clipT,cond_true,yk_ints,yk_nil,ht,hz,decide_false,Bool.false_and,Bool.and_false]
  rw[bcutB_eq1 m _ _ (by omega) (by omega)]
  cases z<;>simp[bnd]
theorem bcut_eq(m:Nat)(z:Bool)(k:Nat)(hk:1≤k)(hk2:k≤1024)(b:List Int)(hb:b.length≤900000)(hm:b.length<m):bcut_D m b (k:Int) z=some ((cut9 b k z,0,()),()):=by
 have ed:Int.tdiv (b.length:Int) (k:Int)=((b.length / k:Nat):Int):=by rw[Int.tdiv_eq_ediv_of_nonneg (by omega)];omega
 have ed2:b.length / k≤b.length:=Nat.div_le_self _ _
 unfold bcut_D bcut_J0
 rw[dF (show ¬(k:Int)<1 by omega),dF (show ¬(1024:Int)<(k:Int)by omega),dF (show ¬(k:Int)=0 by omega),ed]
 generalize b.length / k=dd at ed2 ⊢
 rw[wi64 (x:=((dd:Nat):Int)) (by omega) (by omega),wi64 (by omega) (by omega)]
 simp -implicitDefEqProofs only[cond_false,Bool.not_false,cond_true]
 rw[mkA 24 _ _ (by omega) (by omega) (by omega)]
 unfold bcutRF
 have e0:(List.replicate (Int.toNat (0:Int)) ([]:List Int))= []:=rfl
 rw[e0,pcs_Y_eq m V00 z k hk b hb hm]
 simp -implicitDefEqProofs only[cond_true,bnd_some,clipT]
 simp -implicitDefEqProofs only[toNatC,List.take_length]
end Go.Proofs.Ytngghkoghbpceaa
