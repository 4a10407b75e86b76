/-
  Texts that the law leans on: ScA, ScB, ScC, ScE, ScF. Conditions: as each says.
-/
import Derived.Test.YtflmjbmdmoifhaaGreatDoorKAa
import Derived.Test.YtflmjbmdmoifhaaGreatDoorKAb
set_option linter.unusedSimpArgs false
set_option linter.unusedVariables false
namespace Scopy
open Pars (Node Bs)
section
variable {σ τ : Type}
theorem cut_take {l A B:List Node} {m:Nat} (ha:A.length=(l.take m).length) (hb:B.length=(l.drop m).length):(A++B).take m=A:=by
 simp only[List.length_take,List.length_drop] at ha hb
 by_cases h:m≤l.length
 ·rw[List.take_append_of_le_length (by omega),List.take_of_length_le (by omega)]
 ·have:B=[]:=List.eq_nil_of_length_eq_zero (by omega)
  subst this
  rw[List.append_nil,List.take_of_length_le (by omega)]
theorem cut_drop {l A B:List Node} {m:Nat} (ha:A.length=(l.take m).length) (hb:B.length=(l.drop m).length):(A++B).drop m=B:=by
 simp only[List.length_take,List.length_drop] at ha hb
 by_cases h:m≤l.length
 ·have:m=A.length:=by omega
  rw[this,List.drop_left]
 ·have:B=[]:=List.eq_nil_of_length_eq_zero (by omega)
  subst this
  rw[List.append_nil,List.drop_of_length_le (by omega)]
theorem cut_len {l A B:List Node} {m:Nat} (ha:A.length=(l.take m).length) (hb:B.length=(l.drop m).length):(A++B).length=l.length:=by
 simp only[List.length_take,List.length_drop] at ha hb
 rw[List.length_append]
 omega
theorem tr_text (H:Hd σ):∀(N:Nat) (n:Node) (s:σ),n.kind≠5→n.kind≠24→n.kind≠29→(tr H N n s).2.text=n.text
 | 0,n,s,_,_,_=>rfl
 | N+1,.mk k nu t l,s,h1,h2,h3=>by
  have h1:k≠5:=h1
  have h2:k≠24:=h2
  have h3:k≠29:=h3
  by_cases h30:k=30
  ·subst h30;rw[tr30];rfl
  by_cases h9:k=9
  ·subst h9;rw[tr9_];rfl
  by_cases h21:k=21
  ·subst h21;rw[tr21];split<;>rfl
  rw[trd H N k nu h1 h30 h9 h21 h2 (fun h=>h3 h.1)]
  rfl
theorem hd_setH (x:Bs):∀n:Node,hd (setH x n)=(hd n).map fun p=>(p.1,x)
 | .mk k nu t l=>by
  by_cases h1:k=20
  ·subst h1;rfl
  ·by_cases h2:k=21
   ·subst h2
    match l with
    | []=>rfl
    | .mk k2 nu2 t2 l2 :: r=>rfl
   ·simp[setH,hd,h1,h2]
theorem setH_setH (x y:Bs):∀n:Node,setH x (setH y n)=setH x n
 | .mk k nu t l=>by
  by_cases h1:k=20
  ·subst h1;simp[setH]
  ·by_cases h2:k=21
   ·subst h2
    match l with
    | []=>simp[setH]
    | .mk k2 nu2 t2 l2 :: r=>simp[setH]
   ·simp[setH,h1,h2]
theorem tr9 (H:Hd σ) (N:Nat) (nu:Int) (t x:Bs) (l:List Node) (s:σ):∃l2,tr H N (.mk 9 nu t l) s=((tr H N (.mk 9 nu t l) s).1,.mk 9 nu t l2)∧tr H N (.mk 9 nu x l) s=((tr H N (.mk 9 nu t l) s).1,.mk 9 nu x l2):=by
 cases N with
 | zero=>exact⟨l,rfl,rfl⟩
 | succ N=>exact⟨_,rfl,rfl⟩
theorem tr_setH (H:Hd σ) (x:Bs):∀(N:Nat) (n:Node) (s:σ),tr H N (setH x n) s=((tr H N n s).1,setH x (tr H N n s).2)∧hd (tr H N n s).2=hd n
 | 0,n,s=>⟨rfl,rfl⟩
 | N+1,.mk k nu t l,s=>by
  by_cases h1:k=20
  ·subst h1;simp[setH,tr,hd]
  ·by_cases h2:k=21
   ·subst h2
    match l with
    | []=>simp[setH,tr,fn1,hd]
    | [.mk k2 nu2 t2 l2]=>
     by_cases h3:k2=9
     ·subst h3
      obtain⟨l3,e1,e2⟩:=tr9 H N nu2 t2 x l2 s
      generalize he:(tr H N (.mk 9 nu2 t2 l2) s).1=q at e1 e2
      simp[setH,tr,fn1,hd,Node.kind,mapA,e1,e2]
     ·simp[setH,tr,fn1,hd,Node.kind,h3]
    | .mk k2 nu2 t2 l2 :: b :: r=>simp[setH,tr,fn1,hd]
   ·have e1:∀m:Node,m.kind=k→setH x m=m:=by
     rintro⟨k3,nu3,t3,l3⟩ hm
     have hm:k3=k:=hm
     subst hm
     simp[setH,h1,h2]
    have e2:∀m:Node,m.kind=k→hd m=none:=by
     rintro⟨k3,nu3,t3,l3⟩ hm
     have hm:k3=k:=hm
     subst hm
     simp[hd,h1,h2]
    rw[e1 _ rfl,e1 _ (tr_kind H _ _ s),e2 _ (tr_kind H _ _ s),e2 _ rfl]
    exact⟨rfl,rfl⟩
theorem comp_push (H1:Hd σ) (H2:Hd τ) (d:Nat) (s:σ×τ):(comp H1 H2).push d s=(H1.push d s.1,H2.push d s.2):=rfl
theorem comp_pop (H1:Hd σ) (H2:Hd τ) (s:σ×τ):(comp H1 H2).pop s=(H1.pop s.1,H2.pop s.2):=rfl
theorem comp_decl (H1:Hd σ) (H2:Hd τ) (k:Int) (t:Bs) (s:σ×τ):(comp H1 H2).decl k t s=(((H1.decl k t s.1).1,(H2.decl k (H1.decl k t s.1).2 s.2).1),(H2.decl k (H1.decl k t s.1).2 s.2).2):=rfl
theorem mapA_comp {f:Node→σ→σ×Node} {g:Node→τ→τ×Node} {h:Node→σ×τ→(σ×τ)×Node} (hh:∀a s1 s2,h a (s1,s2)=(((f a s1).1,(g (f a s1).2 s2).1),(g (f a s1).2 s2).2)):
  ∀(l:List Node) (s1:σ) (s2:τ),mapA h l (s1,s2)=(((mapA f l s1).1,(mapA g (mapA f l s1).2 s2).1),(mapA g (mapA f l s1).2 s2).2)
 | [],s1,s2=>rfl
 | a :: l,s1,s2=>by simp[mapA,hh,mapA_comp hh l]
theorem told_comp (H1:Hd σ) (H2:Hd τ) (a:Node) (s1:σ) (s2:τ):told (comp H1 H2) a (s1,s2)=(((told H1 a s1).1,(told H2 (told H1 a s1).2 s2).1),(told H2 (told H1 a s1).2 s2).2):=by
 unfold told
 cases h:hd a with
 | none=>simp[h]
 | some p=>simp[h,hd_setH,setH_setH,comp]
theorem par_comp (H1:Hd σ) (H2:Hd τ):∀(a:Node) (s1:σ) (s2:τ),par (comp H1 H2) a (s1,s2)=(((par H1 a s1).1,(par H2 (par H1 a s1).2 s2).1),(par H2 (par H1 a s1).2 s2).2)
 | .mk k nu t l,s1,s2=>rfl
theorem swap (H1:Hd σ) (H2:Hd τ) (N:Nat):∀(l:List Node) (s1:σ) (s2:τ),
  mapA (tr H1 N) (mapA (told H2) l s2).2 s1=((mapA (tr H1 N) l s1).1,(mapA (told H2) (mapA (tr H1 N) l s1).2 s2).2)∧
  (mapA (told H2) (mapA (tr H1 N) l s1).2 s2).1=(mapA (told H2) l s2).1
 | [],s1,s2=>⟨rfl,rfl⟩
 | a :: l,s1,s2=>by
  have hh:=fun x=>tr_setH H1 x N a s1
  have h2:=(hh []).2
  cases h:hd a with
  | none=>
   have e:told H2 a s2=(s2,a):=by simp[told,h]
   have e2:told H2 (tr H1 N a s1).2 s2=(s2,(tr H1 N a s1).2):=by simp[told,h2,h]
   simp only[mapA,e,e2]
   obtain⟨i1,i2⟩:=swap H1 H2 N l (tr H1 N a s1).1 s2
   rw[i1,i2]
   exact⟨rfl,rfl⟩
  | some p=>
   have e:told H2 a s2=((H2.decl p.1 p.2 s2).1,setH (H2.decl p.1 p.2 s2).2 a):=by simp[told,h]
   have e2:told H2 (tr H1 N a s1).2 s2=((H2.decl p.1 p.2 s2).1,setH (H2.decl p.1 p.2 s2).2 (tr H1 N a s1).2):=by simp[told,h2,h]
   simp only[mapA,e,e2,(hh _).1]
   obtain⟨i1,i2⟩:=swap H1 H2 N l (tr H1 N a s1).1 (H2.decl p.1 p.2 s2).1
   rw[i1,i2]
   exact⟨rfl,rfl⟩
theorem fn1_map {f:Node→σ→σ×Node} (hf:∀a s,(f a s).2.kind=a.kind):∀(l:List Node) (s:σ),fn1 (mapA f l s).2=fn1 l
 | [],s=>rfl
 | [a],s=>by simp[mapA,fn1,hf]
 | a :: b :: l,s=>by simp[mapA,fn1]
set_option maxHeartbeats 2000000 in
theorem tr_comp (H1:Hd σ) (H2:Hd τ):∀(N:Nat) (n:Node) (s1:σ) (s2:τ),tr (comp H1 H2) N n (s1,s2)=(((tr H1 N n s1).1,(tr H2 N (tr H1 N n s1).2 s2).1),(tr H2 N (tr H1 N n s1).2 s2).2)
 | 0,n,s1,s2=>rfl
 | N+1,.mk k nu t l,s1,s2=>by
  have ih:=fun l s1 s2=>mapA_comp (tr_comp H1 H2 N) l s1 s2
  by_cases h5:k=5
  ·subst h5;simp[tr,comp]
  by_cases h30:k=30
  ·subst h30
   simp only[tr30]
   rw[show (comp H1 H2).push 0 (s1,s2)=(H1.push 0 s1,H2.push 0 s2) from rfl,mapA_comp (told_comp H1 H2)]
   simp only[]
   rw[ih]
   simp only[]
   obtain⟨i1,i2⟩:=swap H1 H2 N (mapA (told H1) l (H1.push 0 s1)).2 (mapA (told H1) l (H1.push 0 s1)).1 (H2.push 0 s2)
   rw[i1, ←i2]
   rfl
  by_cases h9:k=9
  ·subst h9
   simp only[tr9_]
   rw[show (comp H1 H2).push 1 (s1,s2)=(H1.push 1 s1,H2.push 1 s2) from rfl,mapA_comp (par_comp H1 H2)]
   simp only[]
   rw[ih]
   simp only[]
   have ha:=mapA_len (par H1) (l.take (l.length - 1)) (H1.push 1 s1)
   have hb:=mapA_len (tr H1 N) (l.drop (l.length - 1)) (mapA (par H1) (l.take (l.length - 1)) (H1.push 1 s1)).1
   rw[cut_len ha hb,cut_take ha hb,cut_drop ha hb]
   rfl
  by_cases h21:k=21
  ·subst h21
   simp only[tr21]
   by_cases hf:fn1 l=true
   ·rw[if_pos hf,if_pos hf,ih]
    simp only[]
    rw[tr21,fn1_map (tr_kind H1 N),if_pos hf]
   ·rw[if_neg hf,if_neg hf]
    simp only[]
    rw[tr21,if_neg hf]
  by_cases h24:k=24
  ·subst h24
   simp only[tr24]
   simp only[ih,comp_push,comp_pop,comp_decl]
   have ha:=mapA_len (tr H1 N) (l.take 1) s1
   have hb:=mapA_len (tr H1 N) (l.drop 1) (H1.decl 24 t (H1.push 0 (mapA (tr H1 N) (l.take 1) s1).1)).1
   rw[cut_take ha hb,cut_drop ha hb]
  by_cases h29:k=29∧nu≠2
  ·obtain⟨rfl,hnu⟩:=h29
   have hc:(29:Int)=29∧nu≠2:=⟨rfl,hnu⟩
   simp only[tr29 _ _ _ hnu]
   simp only[ih,comp_push,comp_pop,comp_decl]
   have ha:=mapA_len (tr H1 N) (l.take 1) s1
   have hb:=mapA_len (tr H1 N) ((l.drop 1).take 1) (H1.decl 29 t (H1.push 0 (mapA (tr H1 N) (l.take 1) s1).1)).1
   have hc:=mapA_len (tr H1 N) ((l.drop 1).drop 1) (H1.pop (mapA (tr H1 N) ((l.drop 1).take 1) (H1.decl 29 t (H1.push 0 (mapA (tr H1 N) (l.take 1) s1).1)).1).1)
   have hd:=cut_len hb hc
   rw[cut_take ha hd,cut_drop ha hd,cut_take hb hc,cut_drop hb hc]
  ·simp only[trd _ _ _ _ h5 h30 h9 h21 h24 h29]
   rw[ih]
end
end Scopy
namespace Scopy
open Pars (Node Bs)
section
variable {σ : Type}
theorem mapA_st {f g:Node→σ→σ×Node} (h:∀a s,(f a s).1=(g a s).1):∀(l:List Node) (s:σ),(mapA f l s).1=(mapA g l s).1
 | [],s=>rfl
 | a :: l,s=>by simp only[mapA];rw[h,mapA_st h l]
theorem told_st {H G:Hd σ} (hh:Alike H G) (a:Node) (s:σ):(told H a s).1=(told G a s).1:=by
 unfold told
 cases hd a with
 | none=>rfl
 | some p=>exact hh.decl _ _ _
theorem par_st {H G:Hd σ} (hh:Alike H G):∀(a:Node) (s:σ),(par H a s).1=(par G a s).1
 | .mk k nu t l,s=>hh.decl _ _ _
theorem tr_st {H G:Hd σ} (hh:Alike H G):∀(N:Nat) (n:Node) (s:σ),(tr H N n s).1=(tr G N n s).1
 | 0,n,s=>rfl
 | N+1,.mk k nu t l,s=>by
  have ih:=fun l s=>mapA_st (f:=tr H N) (g:=tr G N) (tr_st hh N) l s
  unfold tr
  split
  ·exact hh.use _ _
  split
  ·simp only[]
   rw[hh.pop,(swap H H N l _ _).1,(swap G G N l _ _).1]
   simp only[]
   rw[ih,hh.push,mapA_st (told_st hh)]
  split
  ·simp only[];rw[hh.pop,ih,hh.push,mapA_st (par_st hh)]
  split
  ·split
   ·exact ih _ _
   ·rfl
  split
  ·simp only[];rw[hh.pop,ih,hh.decl,hh.push,ih]
  split
  ·simp only[];rw[ih,hh.pop,ih,hh.decl,hh.push,ih]
  ·exact ih _ _
end
section
variable {σ : Type}
theorem par_deep (H:Hd σ):∀(a:Node) (s:σ),Pars.deep (par H a s).2=Pars.deep a
 | .mk k nu t l,s=>rfl
theorem deeps_app:∀(a b:List Node),Pars.deeps (a++b)=max (Pars.deeps a) (Pars.deeps b)
 | [],b=>by simp[Pars.deeps]
 | x :: a,b=>by simp only[List.cons_append,Pars.deeps];rw[deeps_app a b];omega
theorem deeps_cut (l:List Node) (m:Nat):max (Pars.deeps (l.take m)) (Pars.deeps (l.drop m))=Pars.deeps l:=by rw[←deeps_app,List.take_append_drop]
theorem tr_deep (H:Hd σ):∀(N:Nat) (n:Node) (s:σ),Pars.deep (tr H N n s).2=Pars.deep n
 | 0,n,s=>rfl
 | N+1,.mk k nu t l,s=>by
  have ih:=fun l s=>mapA_deeps (f:=tr H N) (tr_deep H N) l s
  unfold tr
  split
  ·rfl
  split
  ·simp only[Pars.deep];rw[ih,mapA_deeps (told_deep H)]
  split
  ·simp only[Pars.deep];rw[deeps_app,ih,mapA_deeps (par_deep H),deeps_cut]
  split
  ·split
   ·simp only[Pars.deep];rw[ih]
   ·rfl
  split
  ·simp only[Pars.deep];rw[deeps_app,ih,ih,deeps_cut]
  split
  ·simp only[Pars.deep];rw[deeps_app,deeps_app,ih,ih,ih,deeps_cut,deeps_cut]
  ·simp only[Pars.deep];rw[ih]
end
end Scopy
namespace Scopy
open Pars (Node Bs)
theorem alike (known:List Bs) (dk:Int) (nm:Bs) (dk2:Int) (nm2:Bs):Alike (hs known dk nm) (hs known dk2 nm2) where
 push _ _:=rfl
 pop _:=rfl
 decl k t s:=by
  simp only[hs]
  split
  ·rfl
  split<;>rfl
 use t s:=by
  simp only[hs]
  split
  ·rfl
  split
  ·rfl
  split<;>rfl
end Scopy
namespace Scopy
open Pars (Node Bs)
open Wri (Rt right rights rt_of of_rt sort)
section
variable {σ : Type}
theorem rights_map {f:Node→σ→σ×Node} {I:σ→Prop} (hf:∀a s fn lp,right a fn lp=true→I s→I (f a s).1∧right (f a s).2 fn lp=true) (hsort:∀a s c,sort (f a s).2 c=sort a c):
  ∀(l:List Node) (s:σ) (g:Bs) (k:Int) (fn lp:Bool) (i:Nat),rights g k fn lp i l=true→I s→I (mapA f l s).1∧rights g k fn lp i (mapA f l s).2=true
 | [],s,g,k,fn,lp,i,h,hi=>⟨hi,h⟩
 | a :: l,s,g,k,fn,lp,i,h,hi=>by
  rw[Wri.rights_cons] at h
  simp only[Bool.and_eq_true] at h
  obtain⟨h1,h2,h3⟩:=h
  obtain⟨h4,h5⟩:=hf a s _ _ h2 hi
  obtain⟨h6,h7⟩:=rights_map hf hsort l (f a s).1 g k fn lp (i+1) h3 h4
  refine⟨h6,?_⟩
  simp only[mapA]
  rw[Wri.rights_cons,hsort,h1,h5,h7]
  rfl
theorem sort_tr (H:Hd σ) (N:Nat) (a:Node) (s:σ) (c:UInt8):sort (tr H N a s).2 c=sort a c:=by
 have hk:=tr_kind H N a s
 by_cases h9:a.kind=9
 ·have ht:=tr_text H N a s (by omega) (by omega) (by omega)
  unfold sort
  rw[hk,ht]
 ·unfold sort
  rw[hk]
  simp[h9]
def mkp (p:Bs):Node:= .mk 10 0 p []
theorem par_names {H:Hd σ} {I:σ→Prop} (hb:Fine H I):∀(ps:List Bs) (s:σ),(∀p∈ps,Wri.name p=true)→I s→I (mapA (par H) (ps.map mkp) s).1∧∃qs:List Bs,(mapA (par H) (ps.map mkp) s).2=qs.map mkp∧∀p∈qs,Wri.name p=true
 | [],s,h,i=>⟨i,[],rfl,fun p hp=>by cases hp⟩
 | p :: ps,s,h,i=>by
  obtain⟨d1,d2⟩:=hb.decl 10 p s (h p (by simp)) i
  obtain⟨h1,qs,h2,h3⟩:=par_names hb ps (H.decl 10 p s).1 (fun q hq=>h q (by simp[hq])) d1
  refine⟨h1,(H.decl 10 p s).2 :: qs,?_,fun q hq=> ?_⟩
  ·show mkp _ :: (mapA (par H) (ps.map mkp) (H.decl 10 p s).1).2=_
   rw[h2];rfl
  ·rcases List.mem_cons.1 hq with rfl | hq
   ·exact d2
   ·exact h3 q hq
set_option maxHeartbeats 4000000 in
theorem tr_right {H:Hd σ} {I:σ→Prop} (hb:Fine H I):∀(N:Nat) (n:Node) (s:σ) (fn lp:Bool),right n fn lp=true→I s→I (tr H N n s).1∧right (tr H N n s).2 fn lp=true
 | 0,n,s,fn,lp,h,i=>⟨i,h⟩
 | N+1,.mk k nu t l,s,fn,lp,h,i=>by
  have ih:=tr_right hb N
  by_cases h5:k=5
  ·subst h5
   have hr:=rt_of _ _ _ h
   cases hr with
   | var _ _ _ hn=>
    obtain⟨d1,d2⟩:=hb.use t s hn i
    rw[tr5]
    exact⟨d1,of_rt (.var fn lp _ d2)⟩
  by_cases h30:k=30
  ·subst h30
   have hr:=rt_of _ _ _ h
   cases hr with
   | block _ _ _ hk hl=>
    simp only[tr30]
    obtain⟨i1,q1⟩:=mapA_all (Q:=fun a=>(20≤a.kind∧a.kind≤31)∧right a fn lp=true) (told_right hb fn lp) l _ (fun a ha=>⟨hk a ha,of_rt (hl a ha)⟩) (hb.push 0 s i)
    obtain⟨i2,q2⟩:=mapA_all (f:=tr H N) (Q:=fun a=>(20≤a.kind∧a.kind≤31)∧right a fn lp=true) (fun a s h i=>by
     obtain⟨a1,a2⟩:=ih a s fn lp h.2 i
     exact⟨a1,by rw[tr_kind];exact h.1,a2⟩) _ _ q1 i1
    exact⟨hb.pop _ i2,of_rt (.block fn lp _ (fun a ha=>(q2 a ha).1) fun a ha=>rt_of _ _ _ (q2 a ha).2)⟩
  by_cases h9:k=9
  ·subst h9
   have hr:=rt_of _ _ _ h
   cases hr with
   | func _ _ _ ps b hn hps hbk hbr=>
    have e1:(ps.map (fun p=>Node.mk 10 0 p [])++[b]).take ((ps.map (fun p=>Node.mk 10 0 p [])++[b]).length - 1)=ps.map mkp:=by
     simp[mkp]
    have e2:(ps.map (fun p=>Node.mk 10 0 p [])++[b]).drop ((ps.map (fun p=>Node.mk 10 0 p [])++[b]).length - 1)=[b]:=by simp
    simp only[tr9_,e1,e2]
    obtain⟨i1,qs,q1,q2⟩:=par_names hb ps _ hps (hb.push 1 s i)
    obtain⟨a1,a2⟩:=ih b (mapA (par H) (ps.map mkp) (H.push 1 s)).1 true false (of_rt hbr) i1
    refine⟨hb.pop _ a1,?_⟩
    rw[q1]
    exact of_rt (.func fn lp t qs _ hn q2 (by rw[tr_kind];exact hbk) (rt_of _ _ _ a2))
  by_cases h21:k=21
  ·subst h21
   have hr:=rt_of _ _ _ h
   cases hr with
   | def_ _ _ f hk ht hf=>
    have e:fn1 [f]=true:=by simp[fn1,hk]
    simp only[tr21,e]
    obtain⟨a1,a2⟩:=ih f s fn lp (of_rt hf) i
    exact⟨a1,of_rt (.def_ fn lp _ (by rw[tr_kind];exact hk) (by rw[tr_text H N f s (by omega) (by omega) (by omega)];exact ht) (rt_of _ _ _ a2))⟩
  by_cases h24:k=24
  ·subst h24
   have hr:=rt_of _ _ _ h
   cases hr with
   | for_ _ _ _ c b hn hc1 hc2 hbk hb2=>
    simp only[tr24]
    obtain⟨a1,a2⟩:=ih c s fn lp (of_rt hc2) i
    obtain⟨d1,d2⟩:=hb.decl 24 t _ hn (hb.push 0 _ a1)
    obtain⟨b1,b2⟩:=ih b _ fn true (of_rt hb2) d1
    refine⟨hb.pop _ b1,of_rt (.for_ fn lp _ _ _ d2 ?_ (rt_of _ _ _ a2) (by rw[tr_kind];exact hbk) (rt_of _ _ _ b2))⟩
    rw[←Wri.sort_e,sort_tr,Wri.sort_e];exact hc1
  by_cases h29:k=29∧nu≠2
  ·obtain⟨rfl,hnu⟩:=h29
   have hc:(29:Int)=29∧nu≠2:=⟨rfl,hnu⟩
   have hr:=rt_of _ _ _ h
   simp only[tr29 _ _ _ hnu]
   cases hr with
   | try1 _ _ _ b c hn hb1 hb2 hc1 hc2=>
    obtain⟨a1,a2⟩:=ih b s fn lp (of_rt hb2) i
    obtain⟨d1,d2⟩:=hb.decl 29 t _ hn (hb.push 0 _ a1)
    obtain⟨b1,b2⟩:=ih c _ fn lp (of_rt hc2) d1
    exact⟨hb.pop _ b1,of_rt (.try1 fn lp _ _ _ d2 (by rw[tr_kind];exact hb1) (rt_of _ _ _ a2) (by rw[tr_kind];exact hc1) (rt_of _ _ _ b2))⟩
   | try2 _ _ b d=>exact absurd rfl hnu
   | try3 _ _ _ b c d hn hb1 hb2 hc1 hc2 hd1 hd2=>
    obtain⟨a1,a2⟩:=ih b s fn lp (of_rt hb2) i
    obtain⟨d1,d2⟩:=hb.decl 29 t _ hn (hb.push 0 _ a1)
    obtain⟨b1,b2⟩:=ih c _ fn lp (of_rt hc2) d1
    obtain⟨c1,c2⟩:=ih d _ fn lp (of_rt hd2) (hb.pop _ b1)
    exact⟨c1,of_rt (.try3 fn lp _ _ _ _ d2 (by rw[tr_kind];exact hb1) (rt_of _ _ _ a2) (by rw[tr_kind];exact hc1) (rt_of _ _ _ b2) (by rw[tr_kind];exact hd1) (rt_of _ _ _ c2))⟩
  ·simp only[trd _ _ _ _ h5 h30 h9 h21 h24 h29]
   rw[Wri.right_eq] at h ⊢
   rw[mapA_len]
   simp only[Bool.and_eq_true] at h ⊢
   obtain⟨g1,g2,g3,g4,g5,g6⟩:=h
   obtain⟨j1,j2⟩:=rights_map (f:=tr H N) (fun a s fn lp h i=>ih a s fn lp h i) (sort_tr H N) l s _ k fn lp 0 g6 i
   exact⟨j1,g1,g2,g3,g4,g5,j2⟩
end
end Scopy
namespace Scopy
open Pars (Node Bs)
theorem run_st (known:List Bs) (dk:Int) (nm:Bs) (n:Node):(run known dk nm n).1=(run known (-1) [] n).1:=tr_st (alike known dk nm (-1) []) _ _ _
theorem fine (known:List Bs) (dk:Int) (nm:Bs) (hn:0≤dk→Wri.name nm=true):Fine (hs known dk nm) fun s=>∀d∈s.decls,Wri.name d.name=true where
 push _ _ i:=i
 pop _ i:=i
 decl k t s ht i:=by
  rcases decl_cases (known:=known) (dk:=dk) (nm:=nm) k t s with⟨_,e⟩ | ⟨_,_,e⟩ | ⟨_,_,e⟩<;>rw[e]
  ·exact⟨i,ht⟩
  ·exact⟨i,ht⟩
  ·refine⟨fun d hd=> ?_,?_⟩
   ·simp only[List.mem_append,List.mem_singleton] at hd
    rcases hd with hd | rfl
    ·exact i d hd
    ·exact ht
   ·simp only[]
    split
    ·exact hn (by omega)
    ·exact ht
 use t s ht i:=by
  rcases use_cases (known:=known) (dk:=dk) (nm:=nm) t s with⟨_,e⟩ | ⟨_,k,_,e⟩ | ⟨_,_,_,e⟩ | ⟨_,_,_,e⟩<;>rw[e]
  ·exact⟨i,ht⟩
  ·refine⟨fun d hd=> ?_,?_⟩
   ·have hd:d∈mark s.decls k s.top.deep:=hd
    obtain⟨j,hj⟩:=List.getElem?_of_mem hd
    rw[mark_get,Option.map_eq_some_iff] at hj
    obtain⟨x,h1,h2⟩:=hj
    have h3:d.name=x.name:=by rw[←h2];split<;>rfl
    rw[h3]
    exact i x (List.mem_of_getElem? h1)
   ·simp only[]
    split
    ·exact hn (by omega)
    ·exact ht
  ·exact⟨i,ht⟩
  ·exact⟨i,ht⟩
theorem run_deep (known:List Bs) (dk:Int) (nm:Bs) (n:Node):Pars.deep (run known dk nm n).2=Pars.deep n:=tr_deep _ _ _ _
end Scopy
