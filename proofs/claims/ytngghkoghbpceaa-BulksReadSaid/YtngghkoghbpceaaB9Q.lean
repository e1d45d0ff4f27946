/-
  Law 09, plain facts: the packets of a transfer, and what they are joined to.
  Conditions: none.
-/
import Derived.Test.YtngghkoghbpceaaB9P
namespace Go.Proofs.Ytngghkoghbpceaa
set_option linter.unusedVariables false
set_option linter.unusedSimpArgs false
set_option maxRecDepth 100000
theorem chk9_full(k:Nat)(hk:1≤k): ∀(n:Nat) (b:List Int),b.length≤n→(∀c∈(chk9 k n b).1,c.length=k)∧(chk9 k n b).1.flatten++(chk9 k n b).2=b∧((chk9 k n b).2.length=0→b= [])∧(chk9 k n b).1.length*k+(chk9 k n b).2.length=b.length
 |0,b,h=>by
  have:b= []:=List.eq_nil_of_length_eq_zero (by omega)
  subst this;simp[chk9]
 |n+1,b,h=>by
  unfold chk9
  split
  ·rename_i hlt
   obtain⟨h1,h2,h3,h4⟩:=chk9_full k hk n (b.drop k) (by simp;omega)
   refine⟨fun c hc=> ?_,?_,fun h0=> ?_,?_⟩
   ·rcases List.mem_cons.1 hc with rfl|hc
    ·simp;omega
    ·exact h1 c hc
   ·simp only[List.flatten_cons,List.append_assoc,h2,List.take_append_drop]
   ·have:=h3 h0
    have h5:=congrArg List.length this
    simp at h5;omega
   ·simp only[List.length_cons,List.length_drop,Nat.succ_mul]at h4 ⊢;omega
  ·rename_i hlt
   exact⟨by simp,by simp,fun h0=>List.eq_nil_of_length_eq_zero h0,by simp⟩
theorem cut9_spec(b:List Int)(k:Nat)(hk:1≤k): ∃(F:List (List Int)) (c:List Int),cut9 b k true=F++ [c]∧(∀x∈F,x.length=k)∧c.length<k∧F.flatten++c=b∧F.length*k≤b.length:=by
 obtain⟨h1,h2,h3,h4⟩:=chk9_full k hk b.length b (Nat.le_refl _)
 obtain⟨g1,g2,g3⟩:=chk9_facts k hk b.length b (Nat.le_refl _)
 unfold cut9
 generalize chk9 k b.length b=p at*
 by_cases hz:0<b.length∧b.length % k=0
 ·
  have hl:p.2.length=k:=by
   have hm:(p.1.length*k+p.2.length) % k=0:=by rw[h4];exact hz.2
   rw[Nat.mul_comm,Nat.mul_add_mod]at hm
   have hp0:p.2.length≠0:=fun h0=>by have:=h3 h0;rw[this]at hz;simp at hz
   by_cases h:p.2.length=k
   ·exact h
   ·rw[Nat.mod_eq_of_lt (by omega)]at hm;omega
  refine⟨p.1++ [p.2],[],?_,?_,by simp only[List.length_nil];omega,?_,?_⟩
  ·have:(true&&(decide (0<b.length)&&decide (b.length % k=0)))=true:=by rw[dT hz.1,dT hz.2];rfl
   rw[this];rfl
  ·intro x hx
   rcases List.mem_append.1 hx with hx|hx
   ·exact h1 x hx
   ·rw[List.mem_singleton.1 hx];exact hl
  ·simpa using h2
  ·simp only[List.length_append,List.length_cons,List.length_nil,Nat.succ_mul,Nat.zero_add]at h4 ⊢;omega
 ·refine⟨p.1,p.2,?_,h1,?_,h2,by omega⟩
  ·have:(true&&(decide (0<b.length)&&decide (b.length % k=0)))=false:=by
    by_cases h0:0<b.length
    ·rw[dF (fun h=>hz ⟨h0,h⟩: ¬b.length % k=0)];simp
    ·rw[dF h0];rfl
   rw[this];simp
  ·by_cases h:p.2.length=k
   ·exfalso
    apply hz
    refine⟨by omega,?_⟩
    rw[←h4,h,Nat.mul_comm,Nat.mul_add_mod,Nat.mod_self]
   ·omega
end Go.Proofs.Ytngghkoghbpceaa
