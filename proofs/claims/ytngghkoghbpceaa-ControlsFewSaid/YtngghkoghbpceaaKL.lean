/-
  Closed calls: what a function hands back at these very arguments, as a contract.
  Conditions: none; nothing here speaks of one program.
-/
import Derived.Test.YtngghkoghbpceaaKE
namespace Go.Proofs.Ytngghkoghbpceaa
set_option linter.unusedVariables false
set_option linter.constructorNameAsVariable false
def cqBA(a b:ByteArray):Bool:=decide (a.data=b.data)
theorem cqBA_eq{a b:ByteArray}(h:cqBA a b=true):a=b:=by
 unfold cqBA at h
 cases a;cases b
 simpa using h
def cqL{α:Type}(f:α→α→Bool):List α→List α→Bool
 | [],[]=>true
 |a::l,b::l'=>f a b&&cqL f l l'
 |_,_=>false
theorem cqL_eq{α:Type}{f:α→α→Bool}(hf: ∀a b,f a b=true→a=b): ∀ {l l':List α},cqL f l l'=true→l=l'
 | [],[],_=>rfl
 |a::l,b::l',h=>by
  simp only[cqL,Bool.and_eq_true]at h
  rw[hf _ _ h.1,cqL_eq hf h.2]
 | [],_::_,h=>by simp[cqL]at h
 |_::_,[],h=>by simp[cqL]at h
def cqT:(s:Sh)→s.T→s.T→Bool
 | .i _,x,y=>decide ((x:Int)=y)
 | .b,x,y=>decide ((x:Bool)=y)
 | .s,x,y=>cqBA x y
 | .ints _,x,y=>decide ((x:List Int)=y)
 | .intc _,x,y=>decide ((x:List Int×Nat)=y)
 | .row e,x,y=>cqL (cqT e) x y
 | .nil,_,_=>true
 | .cons h t,x,y=>cqT h x.1 y.1&&cqT t x.2 y.2
theorem cqT_eq: ∀(s:Sh) (x y:s.T),cqT s x y=true→x=y
 | .i _,x,y,h=>by simpa[cqT]using h
 | .b,x,y,h=>by simpa[cqT]using h
 | .s,x,y,h=>cqBA_eq h
 | .ints _,x,y,h=>by simpa[cqT]using h
 | .intc _,x,y,h=>by simp only[cqT,decide_eq_true_eq]at h;exact h
 | .row e,x,y,h=>cqL_eq (cqT_eq e) h
 | .nil,_,_,_=>rfl
 | .cons h t,x,y,hh=>by
  simp only[cqT,Bool.and_eq_true]at hh
  exact Prod.ext (cqT_eq h _ _ hh.1) (cqT_eq t _ _ hh.2)
def cqV:Value→Value→Bool
 | .string a,.string b=>cqBA a b
 | .map none,.map none=>true
 |a,b=>sqV a b
theorem cqV_eq{a b:Value}(h:cqV a b=true):a=b:=by
 unfold cqV at h
 split at h
 ·rw[cqBA_eq h]
 ·rfl
 ·exact sqV_eq h
def cqD:D→D→Bool
 | .v a,.v b=>cqV a b
 |a,b=>sqD a b
theorem cqD_eq{a b:D}(h:cqD a b=true):a=b:=by
 unfold cqD at h
 split at h
 ·rw[cqV_eq h]
 ·exact sqD_eq _ _ h
def cqWr:Wr→Wr→Bool
 | .ifc t,.ifc t'=>decide (t=t')
 | .mth n,.mth n'=>decide (n=n')
 | .sl n,.sl n'=>decide (n=n')
 | .at_ n,.at_ n'=>decide (n=n')
 |_,_=>false
theorem cqWr_eq{a b:Wr}(h:cqWr a b=true):a=b:=by
 unfold cqWr at h
 split at h
 ·simp only[decide_eq_true_eq]at h;rw[h]
 ·simp only[decide_eq_true_eq]at h;rw[h]
 ·simp only[decide_eq_true_eq]at h;rw[h]
 ·simp only[decide_eq_true_eq]at h;rw[h]
 ·cases h
def cqRow(e e':Sh)(xs:List e.T)(ys:List e'.T):Bool:=if h:e=e' then cqL (cqT e') (h▸xs) ys else false
mutual
def cqSV:SV→SV→Bool
 | .d a,y=>match y with| .d b=>cqD a b|_=>false
 | .i k a,y=>match y with| .i k' b=>decide (k=k')&&decide (a=b)|_=>false
 | .b a,y=>match y with| .b b=>decide (a=b)|_=>false
 | .s a,y=>match y with| .s b=>cqBA a b|_=>false
 | .ints k a c,y=>match y with| .ints k' b c'=>decide (k=k')&&(decide (a=b)&&decide (c=c'))|_=>false
 | .row e a c,y=>match y with| .row e' b c'=>cqRow e e' a b&&decide (c=c')|_=>false
 | .ptr κ o,y=>match y with| .ptr κ' o'=>decide (κ=κ')&&decide (o=o')|_=>false
 | .aptr κ o,y=>match y with| .aptr κ' o'=>decide (κ=κ')&&decide (o=o')|_=>false
 | .own κ,y=>match y with| .own κ'=>decide (κ=κ')|_=>false
 | .pel κ i n o,y=>match y with| .pel κ' i' n' o'=>decide (κ=κ')&&(decide (i=i')&&(decide (n=n')&&decide (o=o')))|_=>false
 | .eaddr a,y=>match y with| .eaddr b=>cqSV a b|_=>false
 | .agg l,y=>match y with| .agg l'=>cqSVs l l'|_=>false
 | .tup l,y=>match y with| .tup l'=>cqSVs l l'|_=>false
 | .clos f l,y=>match y with| .clos f' l'=>decide (f=f')&&cqSVs l l'|_=>false
 | .wrap k a,y=>match y with| .wrap k' b=>cqWr k k'&&cqSV a b|_=>false
 | .bot,y=>match y with| .bot=>true|_=>false
termination_by structural v=>v
def cqSVs:List SV→List SV→Bool
 | [],y=>match y with| []=>true|_=>false
 |a::l,y=>match y with|b::l'=>cqSV a b&&cqSVs l l'|_=>false
termination_by structural l=>l
end
mutual
theorem cqSV_eq: ∀(a b:SV),cqSV a b=true→a=b
 | .d a,y,h=>by
  cases y<;>simp only[cqSV]at h<;>try cases h
  rw[cqD_eq h]
 | .i k a,y,h=>by
  cases y<;>simp only[cqSV]at h<;>try cases h
  simp only[Bool.and_eq_true,decide_eq_true_eq]at h;rw[h.1,h.2]
 | .b a,y,h=>by
  cases y<;>simp only[cqSV]at h<;>try cases h
  simp only[decide_eq_true_eq]at h;rw[h]
 | .s a,y,h=>by
  cases y<;>simp only[cqSV]at h<;>try cases h
  rw[cqBA_eq h]
 | .ints k a c,y,h=>by
  cases y<;>simp only[cqSV]at h<;>try cases h
  simp only[Bool.and_eq_true,decide_eq_true_eq]at h;rw[h.1,h.2.1,h.2.2]
 | .row e a c,y,h=>by
  cases y<;>simp only[cqSV]at h<;>try cases h
  rename_i e' b c'
  simp only[Bool.and_eq_true,decide_eq_true_eq]at h
  obtain⟨h1,rfl⟩:=h
  unfold cqRow at h1
  split at h1
  ·rename_i he
   subst he
   obtain rfl:=cqL_eq (cqT_eq _) h1
   rfl
  ·cases h1
 | .ptr κ o,y,h=>by
  cases y<;>simp only[cqSV]at h<;>try cases h
  simp only[Bool.and_eq_true,decide_eq_true_eq]at h;rw[h.1,h.2]
 | .aptr κ o,y,h=>by
  cases y<;>simp only[cqSV]at h<;>try cases h
  simp only[Bool.and_eq_true,decide_eq_true_eq]at h;rw[h.1,h.2]
 | .own κ,y,h=>by
  cases y<;>simp only[cqSV]at h<;>try cases h
  simp only[decide_eq_true_eq]at h;rw[h]
 | .pel κ i n o,y,h=>by
  cases y<;>simp only[cqSV]at h<;>try cases h
  simp only[Bool.and_eq_true,decide_eq_true_eq]at h;rw[h.1,h.2.1,h.2.2.1,h.2.2.2]
 | .eaddr a,y,h=>by
  cases y<;>simp only[cqSV]at h<;>try cases h
  rw[cqSV_eq _ _ h]
 | .agg l,y,h=>by
  cases y<;>simp only[cqSV]at h<;>try cases h
  rw[cqSVs_eq _ _ h]
 | .tup l,y,h=>by
  cases y<;>simp only[cqSV]at h<;>try cases h
  rw[cqSVs_eq _ _ h]
 | .clos f l,y,h=>by
  cases y<;>simp only[cqSV]at h<;>try cases h
  simp only[Bool.and_eq_true,decide_eq_true_eq]at h;rw[h.1,cqSVs_eq _ _ h.2]
 | .wrap k a,y,h=>by
  cases y<;>simp only[cqSV]at h<;>try cases h
  simp only[Bool.and_eq_true]at h;rw[cqWr_eq h.1,cqSV_eq _ _ h.2]
 | .bot,y,h=>by
  cases y<;>simp only[cqSV]at h<;>first|rfl|cases h
theorem cqSVs_eq: ∀(a b:List SV),cqSVs a b=true→a=b
 | [],y,h=>by cases y<;>simp only[cqSVs]at h<;>first|rfl|cases h
 |a::l,y,h=>by
  cases y<;>simp only[cqSVs]at h<;>try cases h
  simp only[Bool.and_eq_true]at h;rw[cqSV_eq _ _ h.1,cqSVs_eq _ _ h.2]
end
def cqSB:SB→SB→Bool
 | .box e l,.box e' l'=>decide (e=e')&&cqSVs l l'
 | .ints e k a c,.ints e' k' b c'=>decide (e=e')&&(decide (k=k')&&(decide (a=b)&&decide (c=c')))
 | .row e s a c,.row e' s' b c'=>decide (e=e')&&(cqRow s s' a b&&decide (c=c'))
 | .map l,.map l'=>cqSVs l l'
 | .raw (.vrow e l),.raw (.vrow e' l')=>decide (e=e')&&sqAs l l'
 |_,_=>false
theorem cqSB_eq(a b:SB)(h:cqSB a b=true):a=b:=by
 unfold cqSB at h
 split at h
 ·simp only[Bool.and_eq_true,decide_eq_true_eq]at h;rw[h.1,cqSVs_eq _ _ h.2]
 ·simp only[Bool.and_eq_true,decide_eq_true_eq]at h;rw[h.1,h.2.1,h.2.2.1,h.2.2.2]
 ·simp only[Bool.and_eq_true,decide_eq_true_eq]at h
  obtain⟨rfl,h1,rfl⟩:=h
  unfold cqRow at h1
  split at h1
  ·rename_i he
   subst he
   obtain rfl:=cqL_eq (cqT_eq _) h1
   rfl
  ·cases h1
 ·rw[cqSVs_eq _ _ h]
 ·simp only[Bool.and_eq_true,decide_eq_true_eq]at h;rw[h.1,sqAs_eq _ _ h.2]
 ·cases h
theorem repsLe_rfl(l:List AV):RepsLe l l:=fun w F m us h=>h
def exactV(l:List SV):VsPat Unit where
 get v:=if cqSVs v l=true then some ()else none
 put _:=l
 le v x h:=by
  split at h
  ·rename_i hq;rw[cqSVs_eq _ _ hq];exact repsLe_rfl _
  ·cases h
def exactB(l:List SB):BsPat Unit where
 get v:=if cqL cqSB v l=true then some ()else none
 put _:=l
 le v x h:=by
  split at h
  ·rename_i hq;rw[cqL_eq cqSB_eq hq];exact BsLe.refl _
  ·cases h
def exactR(n:Nat)(v:SV)(BS:List SB):RPat n Unit where
 get v' BS':=if cqSV v' v&&cqL cqSB BS' BS then some ()else none
 put R _ k:=k v BS
 law v' BS' y h R k r hk:=by
  split at h
  ·rename_i hq
   simp only[Bool.and_eq_true]at hq
   obtain rfl:=cqSV_eq _ _ hq.1
   obtain rfl:=cqL_eq cqSB_eq hq.2
   exact⟨_,_,hk,fun P f vs hs _ hl hc=>⟨hl,hc⟩⟩
  ·cases h
def clCon(vs:List SV)(hs:List SB)(v:SV)(BS:List SB):Con:=⟨Unit,Unit,Unit,exactV vs,exactB hs,hs.length,fun _=>rfl,exactR hs.length v BS,fun _ _=>some ()⟩
end Go.Proofs.Ytngghkoghbpceaa
