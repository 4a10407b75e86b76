/-
  Texts that the law leans on: ScA, ScB, ScC, ScD, PlC. Conditions: as each says.
-/
import Derived.Test.YtflmjbmdmoifhaaGreatDoorUAa
set_option linter.unusedSimpArgs false
set_option linter.unusedVariables false
namespace Scopy
open Pars (Node Bs)
structure Hd (σ:Type) where
 push:Nat→σ→σ
 pop:σ→σ
 decl:Int→Bs→σ→σ×Bs
 use:Bs→σ→σ×Bs
section
variable {σ τ : Type}
def mapA (f:Node→σ→σ×Node):List Node→σ→σ×List Node
 | [],s=>(s,[])
 | a :: l,s=>((mapA f l (f a s).1).1,(f a s).2 :: (mapA f l (f a s).1).2)
def hd:Node→Option (Int×Bs)
 | .mk k _ t l=>if k=20 then some (20,t) else if k=21 then (match l with | .mk _ _ x _ :: _=>some (21,x) | []=>none) else none
def setH (x:Bs):Node→Node
 | .mk k nu t l=>if k=20 then .mk k nu x l else if k=21 then (match l with | .mk k2 nu2 _ l2 :: r=> .mk k nu t (.mk k2 nu2 x l2 :: r) | []=> .mk k nu t []) else .mk k nu t l
def told (H:Hd σ) (n:Node) (s:σ):σ×Node:=match hd n with
 | some p=>((H.decl p.1 p.2 s).1,setH (H.decl p.1 p.2 s).2 n)
 | none=>(s,n)
def par (H:Hd σ):Node→σ→σ×Node
 | .mk k nu t l,s=>((H.decl 10 t s).1,.mk k nu (H.decl 10 t s).2 l)
def fn1:List Node→Bool
 | [g]=>decide (g.kind=9)
 | _=>false
def tr (H:Hd σ):Nat→Node→σ→σ×Node
 | 0,n,s=>(s,n)
 | N+1,.mk k nu t l,s=>
  if k=5 then ((H.use t s).1,.mk k nu (H.use t s).2 l)
  else if k=30 then
   let p:=mapA (told H) l (H.push 0 s)
   let q:=mapA (tr H N) p.2 p.1
   (H.pop q.1,.mk k nu t q.2)
  else if k=9 then
   let p:=mapA (par H) (l.take (l.length - 1)) (H.push 1 s)
   let q:=mapA (tr H N) (l.drop (l.length - 1)) p.1
   (H.pop q.1,.mk k nu t (p.2++q.2))
  else if k=21 then
   if fn1 l then ((mapA (tr H N) l s).1,.mk k nu t (mapA (tr H N) l s).2) else (s,.mk k nu t l)
  else if k=24 then
   let p:=mapA (tr H N) (l.take 1) s
   let d:=H.decl 24 t (H.push 0 p.1)
   let q:=mapA (tr H N) (l.drop 1) d.1
   (H.pop q.1,.mk k nu d.2 (p.2++q.2))
  else if k=29∧nu≠2 then
   let p:=mapA (tr H N) (l.take 1) s
   let d:=H.decl 29 t (H.push 0 p.1)
   let q:=mapA (tr H N) ((l.drop 1).take 1) d.1
   let r:=mapA (tr H N) ((l.drop 1).drop 1) (H.pop q.1)
   (r.1,.mk k nu d.2 (p.2++(q.2++r.2)))
  else ((mapA (tr H N) l s).1,.mk k nu t (mapA (tr H N) l s).2)
theorem tr5 (H:Hd σ) (N:Nat) (nu:Int) (t:Bs) (l:List Node) (s:σ):tr H (N+1) (.mk 5 nu t l) s=((H.use t s).1,.mk 5 nu (H.use t s).2 l):=rfl
theorem tr30 (H:Hd σ) (N:Nat) (nu:Int) (t:Bs) (l:List Node) (s:σ):tr H (N+1) (.mk 30 nu t l) s=(H.pop (mapA (tr H N) (mapA (told H) l (H.push 0 s)).2 (mapA (told H) l (H.push 0 s)).1).1,.mk 30 nu t (mapA (tr H N) (mapA (told H) l (H.push 0 s)).2 (mapA (told H) l (H.push 0 s)).1).2):=rfl
theorem tr9_ (H:Hd σ) (N:Nat) (nu:Int) (t:Bs) (l:List Node) (s:σ):tr H (N+1) (.mk 9 nu t l) s=(H.pop (mapA (tr H N) (l.drop (l.length - 1)) (mapA (par H) (l.take (l.length - 1)) (H.push 1 s)).1).1,.mk 9 nu t ((mapA (par H) (l.take (l.length - 1)) (H.push 1 s)).2++(mapA (tr H N) (l.drop (l.length - 1)) (mapA (par H) (l.take (l.length - 1)) (H.push 1 s)).1).2)):=rfl
theorem tr21 (H:Hd σ) (N:Nat) (nu:Int) (t:Bs) (l:List Node) (s:σ):tr H (N+1) (.mk 21 nu t l) s=if fn1 l then ((mapA (tr H N) l s).1,.mk 21 nu t (mapA (tr H N) l s).2) else (s,.mk 21 nu t l):=rfl
theorem tr24 (H:Hd σ) (N:Nat) (nu:Int) (t:Bs) (l:List Node) (s:σ):tr H (N+1) (.mk 24 nu t l) s=(H.pop (mapA (tr H N) (l.drop 1) (H.decl 24 t (H.push 0 (mapA (tr H N) (l.take 1) s).1)).1).1,.mk 24 nu (H.decl 24 t (H.push 0 (mapA (tr H N) (l.take 1) s).1)).2 ((mapA (tr H N) (l.take 1) s).2++(mapA (tr H N) (l.drop 1) (H.decl 24 t (H.push 0 (mapA (tr H N) (l.take 1) s).1)).1).2)):=rfl
theorem tr29 (H:Hd σ) (N:Nat) (nu:Int) (hnu:nu≠2) (t:Bs) (l:List Node) (s:σ):tr H (N+1) (.mk 29 nu t l) s=((mapA (tr H N) ((l.drop 1).drop 1) (H.pop (mapA (tr H N) ((l.drop 1).take 1) (H.decl 29 t (H.push 0 (mapA (tr H N) (l.take 1) s).1)).1).1)).1,.mk 29 nu (H.decl 29 t (H.push 0 (mapA (tr H N) (l.take 1) s).1)).2 ((mapA (tr H N) (l.take 1) s).2++((mapA (tr H N) ((l.drop 1).take 1) (H.decl 29 t (H.push 0 (mapA (tr H N) (l.take 1) s).1)).1).2++(mapA (tr H N) ((l.drop 1).drop 1) (H.pop (mapA (tr H N) ((l.drop 1).take 1) (H.decl 29 t (H.push 0 (mapA (tr H N) (l.take 1) s).1)).1).1)).2))):=by
 have hc:(29:Int)=29∧nu≠2:=⟨rfl,hnu⟩
 unfold tr
 rw[if_neg (by decide),if_neg (by decide),if_neg (by decide),if_neg (by decide),if_neg (by decide),if_pos hc]
theorem trd (H:Hd σ) (N:Nat) (k nu:Int) (h5:k≠5) (h30:k≠30) (h9:k≠9) (h21:k≠21) (h24:k≠24) (h29:¬(k=29∧nu≠2)) (t:Bs) (l:List Node) (s:σ):tr H (N+1) (.mk k nu t l) s=((mapA (tr H N) l s).1,.mk k nu t (mapA (tr H N) l s).2):=by
 unfold tr
 rw[if_neg h5,if_neg h30,if_neg h9,if_neg h21,if_neg h24,if_neg h29]
theorem mapA_len (f:Node→σ→σ×Node):∀(l:List Node) (s:σ),(mapA f l s).2.length=l.length
 | [],s=>rfl
 | a :: l,s=>by simp[mapA,mapA_len f l]
theorem mapA_app (f:Node→σ→σ×Node):∀(l m:List Node) (s:σ),mapA f (l++m) s=((mapA f m (mapA f l s).1).1,(mapA f l s).2++(mapA f m (mapA f l s).1).2)
 | [],m,s=>rfl
 | a :: l,m,s=>by simp[mapA,mapA_app f l]
theorem cut_take {l A B:List Node} {m:Nat} (ha:A.length=(l.take m).length) (hb:B.length=(l.drop m).length):(A++B).take m=A:=by
 simp only[List.length_take,List.length_drop] at ha hb
 by_cases h:m≤l.length
 ·rw[List.take_append_of_le_length (by omega),List.take_of_length_le (by omega)]
 ·have:B=[]:=List.eq_nil_of_length_eq_zero (by omega)
  subst this
  rw[List.append_nil,List.take_of_length_le (by omega)]
theorem cut_drop {l A B:List Node} {m:Nat} (ha:A.length=(l.take m).length) (hb:B.length=(l.drop m).length):(A++B).drop m=B:=by
 simp only[List.length_take,List.length_drop] at ha hb
 by_cases h:m≤l.length
 ·have:m=A.length:=by omega
  rw[this,List.drop_left]
 ·have:B=[]:=List.eq_nil_of_length_eq_zero (by omega)
  subst this
  rw[List.append_nil,List.drop_of_length_le (by omega)]
theorem cut_len {l A B:List Node} {m:Nat} (ha:A.length=(l.take m).length) (hb:B.length=(l.drop m).length):(A++B).length=l.length:=by
 simp only[List.length_take,List.length_drop] at ha hb
 rw[List.length_append]
 omega
theorem tr_kind (H:Hd σ):∀(N:Nat) (n:Node) (s:σ),(tr H N n s).2.kind=n.kind
 | 0,n,s=>rfl
 | N+1,.mk k nu t l,s=>by
  unfold tr
  split<;>(try rfl)
  split<;>(try rfl)
  split<;>(try rfl)
  split
  ·split<;>rfl
  split<;>(try rfl)
  split<;>rfl
theorem tr_num (H:Hd σ):∀(N:Nat) (n:Node) (s:σ),(tr H N n s).2.num=n.num
 | 0,n,s=>rfl
 | N+1,.mk k nu t l,s=>by
  unfold tr
  split<;>(try rfl)
  split<;>(try rfl)
  split<;>(try rfl)
  split
  ·split<;>rfl
  split<;>(try rfl)
  split<;>rfl
theorem hd_setH (x:Bs):∀n:Node,hd (setH x n)=(hd n).map fun p=>(p.1,x)
 | .mk k nu t l=>by
  by_cases h1:k=20
  ·subst h1;rfl
  ·by_cases h2:k=21
   ·subst h2
    match l with
    | []=>rfl
    | .mk k2 nu2 t2 l2 :: r=>rfl
   ·simp[setH,hd,h1,h2]
theorem setH_setH (x y:Bs):∀n:Node,setH x (setH y n)=setH x n
 | .mk k nu t l=>by
  by_cases h1:k=20
  ·subst h1;simp[setH]
  ·by_cases h2:k=21
   ·subst h2
    match l with
    | []=>simp[setH]
    | .mk k2 nu2 t2 l2 :: r=>simp[setH]
   ·simp[setH,h1,h2]
theorem setH_self:∀(n:Node) (p:Int×Bs),hd n=some p→setH p.2 n=n
 | .mk k nu t l,p,h=>by
  by_cases h1:k=20
  ·subst h1;simp[hd] at h;subst h;simp[setH]
  ·by_cases h2:k=21
   ·subst h2
    match l with
    | []=>simp[hd] at h
    | .mk k2 nu2 t2 l2 :: r=>simp[hd] at h;subst h;simp[setH]
   ·simp[hd,h1,h2] at h
theorem tr9 (H:Hd σ) (N:Nat) (nu:Int) (t x:Bs) (l:List Node) (s:σ):∃l2,tr H N (.mk 9 nu t l) s=((tr H N (.mk 9 nu t l) s).1,.mk 9 nu t l2)∧tr H N (.mk 9 nu x l) s=((tr H N (.mk 9 nu t l) s).1,.mk 9 nu x l2):=by
 cases N with
 | zero=>exact⟨l,rfl,rfl⟩
 | succ N=>exact⟨_,rfl,rfl⟩
theorem tr_setH (H:Hd σ) (x:Bs):∀(N:Nat) (n:Node) (s:σ),tr H N (setH x n) s=((tr H N n s).1,setH x (tr H N n s).2)∧hd (tr H N n s).2=hd n
 | 0,n,s=>⟨rfl,rfl⟩
 | N+1,.mk k nu t l,s=>by
  by_cases h1:k=20
  ·subst h1;simp[setH,tr,hd]
  ·by_cases h2:k=21
   ·subst h2
    match l with
    | []=>simp[setH,tr,fn1,hd]
    | [.mk k2 nu2 t2 l2]=>
     by_cases h3:k2=9
     ·subst h3
      obtain⟨l3,e1,e2⟩:=tr9 H N nu2 t2 x l2 s
      generalize he:(tr H N (.mk 9 nu2 t2 l2) s).1=q at e1 e2
      simp[setH,tr,fn1,hd,Node.kind,mapA,e1,e2]
     ·simp[setH,tr,fn1,hd,Node.kind,h3]
    | .mk k2 nu2 t2 l2 :: b :: r=>simp[setH,tr,fn1,hd]
   ·have e1:∀m:Node,m.kind=k→setH x m=m:=by
     rintro⟨k3,nu3,t3,l3⟩ hm
     have hm:k3=k:=hm
     subst hm
     simp[setH,h1,h2]
    have e2:∀m:Node,m.kind=k→hd m=none:=by
     rintro⟨k3,nu3,t3,l3⟩ hm
     have hm:k3=k:=hm
     subst hm
     simp[hd,h1,h2]
    rw[e1 _ rfl,e1 _ (tr_kind H _ _ s),e2 _ (tr_kind H _ _ s),e2 _ rfl]
    exact⟨rfl,rfl⟩
def comp (H1:Hd σ) (H2:Hd τ):Hd (σ×τ) where
 push d s:=(H1.push d s.1,H2.push d s.2)
 pop s:=(H1.pop s.1,H2.pop s.2)
 decl k t s:=(((H1.decl k t s.1).1,(H2.decl k (H1.decl k t s.1).2 s.2).1),(H2.decl k (H1.decl k t s.1).2 s.2).2)
 use t s:=(((H1.use t s.1).1,(H2.use (H1.use t s.1).2 s.2).1),(H2.use (H1.use t s.1).2 s.2).2)
theorem comp_push (H1:Hd σ) (H2:Hd τ) (d:Nat) (s:σ×τ):(comp H1 H2).push d s=(H1.push d s.1,H2.push d s.2):=rfl
theorem comp_pop (H1:Hd σ) (H2:Hd τ) (s:σ×τ):(comp H1 H2).pop s=(H1.pop s.1,H2.pop s.2):=rfl
theorem comp_decl (H1:Hd σ) (H2:Hd τ) (k:Int) (t:Bs) (s:σ×τ):(comp H1 H2).decl k t s=(((H1.decl k t s.1).1,(H2.decl k (H1.decl k t s.1).2 s.2).1),(H2.decl k (H1.decl k t s.1).2 s.2).2):=rfl
theorem mapA_comp {f:Node→σ→σ×Node} {g:Node→τ→τ×Node} {h:Node→σ×τ→(σ×τ)×Node} (hh:∀a s1 s2,h a (s1,s2)=(((f a s1).1,(g (f a s1).2 s2).1),(g (f a s1).2 s2).2)):
  ∀(l:List Node) (s1:σ) (s2:τ),mapA h l (s1,s2)=(((mapA f l s1).1,(mapA g (mapA f l s1).2 s2).1),(mapA g (mapA f l s1).2 s2).2)
 | [],s1,s2=>rfl
 | a :: l,s1,s2=>by simp[mapA,hh,mapA_comp hh l]
theorem told_comp (H1:Hd σ) (H2:Hd τ) (a:Node) (s1:σ) (s2:τ):told (comp H1 H2) a (s1,s2)=(((told H1 a s1).1,(told H2 (told H1 a s1).2 s2).1),(told H2 (told H1 a s1).2 s2).2):=by
 unfold told
 cases h:hd a with
 | none=>simp[h]
 | some p=>simp[h,hd_setH,setH_setH,comp]
theorem par_comp (H1:Hd σ) (H2:Hd τ):∀(a:Node) (s1:σ) (s2:τ),par (comp H1 H2) a (s1,s2)=(((par H1 a s1).1,(par H2 (par H1 a s1).2 s2).1),(par H2 (par H1 a s1).2 s2).2)
 | .mk k nu t l,s1,s2=>rfl
theorem swap (H1:Hd σ) (H2:Hd τ) (N:Nat):∀(l:List Node) (s1:σ) (s2:τ),
  mapA (tr H1 N) (mapA (told H2) l s2).2 s1=((mapA (tr H1 N) l s1).1,(mapA (told H2) (mapA (tr H1 N) l s1).2 s2).2)∧
  (mapA (told H2) (mapA (tr H1 N) l s1).2 s2).1=(mapA (told H2) l s2).1
 | [],s1,s2=>⟨rfl,rfl⟩
 | a :: l,s1,s2=>by
  have hh:=fun x=>tr_setH H1 x N a s1
  have h2:=(hh []).2
  cases h:hd a with
  | none=>
   have e:told H2 a s2=(s2,a):=by simp[told,h]
   have e2:told H2 (tr H1 N a s1).2 s2=(s2,(tr H1 N a s1).2):=by simp[told,h2,h]
   simp only[mapA,e,e2]
   obtain⟨i1,i2⟩:=swap H1 H2 N l (tr H1 N a s1).1 s2
   rw[i1,i2]
   exact⟨rfl,rfl⟩
  | some p=>
   have e:told H2 a s2=((H2.decl p.1 p.2 s2).1,setH (H2.decl p.1 p.2 s2).2 a):=by simp[told,h]
   have e2:told H2 (tr H1 N a s1).2 s2=((H2.decl p.1 p.2 s2).1,setH (H2.decl p.1 p.2 s2).2 (tr H1 N a s1).2):=by simp[told,h2,h]
   simp only[mapA,e,e2,(hh _).1]
   obtain⟨i1,i2⟩:=swap H1 H2 N l (tr H1 N a s1).1 (H2.decl p.1 p.2 s2).1
   rw[i1,i2]
   exact⟨rfl,rfl⟩
theorem fn1_map {f:Node→σ→σ×Node} (hf:∀a s,(f a s).2.kind=a.kind):∀(l:List Node) (s:σ),fn1 (mapA f l s).2=fn1 l
 | [],s=>rfl
 | [a],s=>by simp[mapA,fn1,hf]
 | a :: b :: l,s=>by simp[mapA,fn1]
set_option maxHeartbeats 2000000 in
theorem tr_comp (H1:Hd σ) (H2:Hd τ):∀(N:Nat) (n:Node) (s1:σ) (s2:τ),tr (comp H1 H2) N n (s1,s2)=(((tr H1 N n s1).1,(tr H2 N (tr H1 N n s1).2 s2).1),(tr H2 N (tr H1 N n s1).2 s2).2)
 | 0,n,s1,s2=>rfl
 | N+1,.mk k nu t l,s1,s2=>by
  have ih:=fun l s1 s2=>mapA_comp (tr_comp H1 H2 N) l s1 s2
  by_cases h5:k=5
  ·subst h5;simp[tr,comp]
  by_cases h30:k=30
  ·subst h30
   simp only[tr30]
   rw[show (comp H1 H2).push 0 (s1,s2)=(H1.push 0 s1,H2.push 0 s2) from rfl,mapA_comp (told_comp H1 H2)]
   simp only[]
   rw[ih]
   simp only[]
   obtain⟨i1,i2⟩:=swap H1 H2 N (mapA (told H1) l (H1.push 0 s1)).2 (mapA (told H1) l (H1.push 0 s1)).1 (H2.push 0 s2)
   rw[i1, ←i2]
   rfl
  by_cases h9:k=9
  ·subst h9
   simp only[tr9_]
   rw[show (comp H1 H2).push 1 (s1,s2)=(H1.push 1 s1,H2.push 1 s2) from rfl,mapA_comp (par_comp H1 H2)]
   simp only[]
   rw[ih]
   simp only[]
   have ha:=mapA_len (par H1) (l.take (l.length - 1)) (H1.push 1 s1)
   have hb:=mapA_len (tr H1 N) (l.drop (l.length - 1)) (mapA (par H1) (l.take (l.length - 1)) (H1.push 1 s1)).1
   rw[cut_len ha hb,cut_take ha hb,cut_drop ha hb]
   rfl
  by_cases h21:k=21
  ·subst h21
   simp only[tr21]
   by_cases hf:fn1 l=true
   ·rw[if_pos hf,if_pos hf,ih]
    simp only[]
    rw[tr21,fn1_map (tr_kind H1 N),if_pos hf]
   ·rw[if_neg hf,if_neg hf]
    simp only[]
    rw[tr21,if_neg hf]
  by_cases h24:k=24
  ·subst h24
   simp only[tr24]
   simp only[ih,comp_push,comp_pop,comp_decl]
   have ha:=mapA_len (tr H1 N) (l.take 1) s1
   have hb:=mapA_len (tr H1 N) (l.drop 1) (H1.decl 24 t (H1.push 0 (mapA (tr H1 N) (l.take 1) s1).1)).1
   rw[cut_take ha hb,cut_drop ha hb]
  by_cases h29:k=29∧nu≠2
  ·obtain⟨rfl,hnu⟩:=h29
   have hc:(29:Int)=29∧nu≠2:=⟨rfl,hnu⟩
   simp only[tr29 _ _ _ hnu]
   simp only[ih,comp_push,comp_pop,comp_decl]
   have ha:=mapA_len (tr H1 N) (l.take 1) s1
   have hb:=mapA_len (tr H1 N) ((l.drop 1).take 1) (H1.decl 29 t (H1.push 0 (mapA (tr H1 N) (l.take 1) s1).1)).1
   have hc:=mapA_len (tr H1 N) ((l.drop 1).drop 1) (H1.pop (mapA (tr H1 N) ((l.drop 1).take 1) (H1.decl 29 t (H1.push 0 (mapA (tr H1 N) (l.take 1) s1).1)).1).1)
   have hd:=cut_len hb hc
   rw[cut_take ha hd,cut_drop ha hd,cut_take hb hc,cut_drop hb hc]
  ·simp only[trd _ _ _ _ h5 h30 h9 h21 h24 h29]
   rw[ih]
end
end Scopy
namespace Scopy
open Pars (Node Bs)
section
variable {σ : Type}
theorem mapA_back {f:Node→σ→σ×Node} {J:σ→Prop} (h:∀a s,J (f a s).1→J s):∀(l:List Node) (s:σ),J (mapA f l s).1→J s
 | [],s,hj=>hj
 | a :: l,s,hj=>h a s (mapA_back h l _ hj)
structure Backs (H:Hd σ) (J:σ→Prop):Prop where
 push:∀d s,J (H.push d s)→J s
 pop:∀s,J (H.pop s)→J s
 decl:∀k t s,J (H.decl k t s).1→J s
 use:∀t s,J (H.use t s).1→J s
theorem told_back {H:Hd σ} {J:σ→Prop} (hb:Backs H J) (a:Node) (s:σ) (h:J (told H a s).1):J s:=by
 unfold told at h
 cases e:hd a with
 | none=>rw[e] at h;exact h
 | some p=>rw[e] at h;exact hb.decl _ _ _ h
theorem par_back {H:Hd σ} {J:σ→Prop} (hb:Backs H J):∀(a:Node) (s:σ),J (par H a s).1→J s
 | .mk k nu t l,s,h=>hb.decl _ _ _ h
theorem tr_back {H:Hd σ} {J:σ→Prop} (hb:Backs H J):∀(N:Nat) (n:Node) (s:σ),J (tr H N n s).1→J s
 | 0,n,s,h=>h
 | N+1,.mk k nu t l,s,h=>by
  have ih:=fun l s=>mapA_back (f:=tr H N) (tr_back hb N) l s
  unfold tr at h
  split at h
  ·exact hb.use _ _ h
  split at h
  ·exact hb.push _ _ (mapA_back (told_back hb) _ _ (ih _ _ (hb.pop _ h)))
  split at h
  ·exact hb.push _ _ (mapA_back (par_back hb) _ _ (ih _ _ (hb.pop _ h)))
  split at h
  ·split at h
   ·exact ih _ _ h
   ·exact h
  split at h
  ·exact ih _ _ (hb.push _ _ (hb.decl _ _ _ (ih _ _ (hb.pop _ h))))
  split at h
  ·exact ih _ _ (hb.push _ _ (hb.decl _ _ _ (ih _ _ (hb.pop _ (ih _ _ h)))))
  ·exact ih _ _ h
theorem mapA_inv {f:Node→σ→σ×Node} {J I:σ→Prop} (h:∀a s,J (f a s).1→J s) (hi:∀a s,J (f a s).1→I s→I (f a s).1):∀(l:List Node) (s:σ),J (mapA f l s).1→I s→I (mapA f l s).1
 | [],s,hj,i=>i
 | a :: l,s,hj,i=>mapA_inv h hi l _ hj (hi a s (mapA_back h l _ hj) i)
structure Keeps (H:Hd σ) (J I P:σ→Prop):Prop extends Backs H J where
 pushI:∀d s,J (H.push d s)→I s→I (H.push d s)
 pushP:∀s,P (H.push 1 s)
 popI:∀s,J (H.pop s)→I s→I (H.pop s)
 declI:∀k t s,J (H.decl k t s).1→I s→(k=10→P s)→I (H.decl k t s).1
 declP:∀k t s,P s→P (H.decl k t s).1
 useI:∀t s,J (H.use t s).1→I s→I (H.use t s).1
theorem hd_ten:∀(n:Node) (p:Int×Bs),hd n=some p→p.1≠10
 | .mk k nu t l,p,h=>by
  by_cases h1:k=20
  ·subst h1;simp[hd] at h;subst h;simp
  ·by_cases h2:k=21
   ·subst h2
    match l with
    | []=>simp[hd] at h
    | .mk k2 nu2 t2 l2 :: r=>simp[hd] at h;subst h;simp
   ·simp[hd,h1,h2] at h
theorem told_inv {H:Hd σ} {J I P:σ→Prop} (hb:Keeps H J I P) (a:Node) (s:σ) (h:J (told H a s).1) (i:I s):I (told H a s).1:=by
 unfold told at h ⊢
 cases e:hd a with
 | none=>exact i
 | some p=>
  rw[e] at h
  exact hb.declI _ _ _ h i fun hk=>absurd hk (hd_ten a p e)
theorem par_inv {H:Hd σ} {J I P:σ→Prop} (hb:Keeps H J I P):∀(a:Node) (s:σ),J (par H a s).1→(I s∧P s)→(I (par H a s).1∧P (par H a s).1)
 | .mk k nu t l,s,h,i=>⟨hb.declI _ _ _ h i.1 fun _=>i.2,hb.declP _ _ _ i.2⟩
theorem tr_inv {H:Hd σ} {J I P:σ→Prop} (hb:Keeps H J I P):∀(N:Nat) (n:Node) (s:σ),J (tr H N n s).1→I s→I (tr H N n s).1
 | 0,n,s,h,i=>i
 | N+1,.mk k nu t l,s,h,i=>by
  have ib:=fun l s=>mapA_back (f:=tr H N) (tr_back hb.toBacks N) l s
  have ih:=fun l s=>mapA_inv (f:=tr H N) (tr_back hb.toBacks N) (tr_inv hb N) l s
  unfold tr at h ⊢
  split at h
  ·rename_i h5;rw[if_pos h5];exact hb.useI _ _ h i
  rename_i h5;rw[if_neg h5]
  split at h
  ·rename_i h30;rw[if_pos h30]
   have h1:=hb.pop _ h
   have h2:=ib _ _ h1
   have h3:=mapA_back (told_back hb.toBacks) _ _ h2
   exact hb.popI _ h (ih _ _ h1 (mapA_inv (told_back hb.toBacks) (told_inv hb) _ _ h2 (hb.pushI _ _ h3 i)))
  rename_i h30;rw[if_neg h30]
  split at h
  ·rename_i h9;rw[if_pos h9]
   have h1:=hb.pop _ h
   have h2:=ib _ _ h1
   have h3:=mapA_back (par_back hb.toBacks) _ _ h2
   exact hb.popI _ h (ih _ _ h1 (mapA_inv (I:=fun s=>I s∧P s) (par_back hb.toBacks) (par_inv hb) _ _ h2 ⟨hb.pushI _ _ h3 i,hb.pushP _⟩).1)
  rename_i h9;rw[if_neg h9]
  split at h
  ·rename_i h21;rw[if_pos h21]
   split at h
   ·rename_i hf;rw[if_pos hf];exact ih _ _ h i
   ·rename_i hf;rw[if_neg hf];exact i
  rename_i h21;rw[if_neg h21]
  split at h
  ·rename_i h24;rw[if_pos h24]
   have h1:=hb.pop _ h
   have h2:=ib _ _ h1
   have h3:=hb.decl _ _ _ h2
   have h4:=hb.push _ _ h3
   exact hb.popI _ h (ih _ _ h1 (hb.declI _ _ _ h2 (hb.pushI _ _ h3 (ih _ _ h4 i)) (fun e=>absurd e (by decide))))
  rename_i h24;rw[if_neg h24]
  split at h
  ·rename_i h29;rw[if_pos h29]
   have h0:=ib _ _ h
   have h1:=hb.pop _ h0
   have h2:=ib _ _ h1
   have h3:=hb.decl _ _ _ h2
   have h4:=hb.push _ _ h3
   exact ih _ _ h (hb.popI _ h0 (ih _ _ h1 (hb.declI _ _ _ h2 (hb.pushI _ _ h3 (ih _ _ h4 i)) (fun e=>absurd e (by decide)))))
  ·rename_i h29;rw[if_neg h29];exact ih _ _ h i
theorem mapA_same {f:Node→σ→σ×Node} {J I:σ→Prop} (h:∀a s,J (f a s).1→J s) (hi:∀a s,J (f a s).1→I s→I (f a s).1) (he:∀a s,J (f a s).1→I s→(f a s).2=a):∀(l:List Node) (s:σ),J (mapA f l s).1→I s→(mapA f l s).2=l
 | [],s,hj,i=>rfl
 | a :: l,s,hj,i=>by
  have hj:J (mapA f l (f a s).1).1:=hj
  have h1:=mapA_back h l _ hj
  simp only[mapA]
  rw[he a s h1 i,mapA_same h hi he l _ hj (hi a s h1 i)]
structure Stays (H:Hd σ) (J I P:σ→Prop):Prop extends Keeps H J I P where
 declS:∀k t s,J (H.decl k t s).1→I s→(H.decl k t s).2=t
 useS:∀t s,J (H.use t s).1→I s→(H.use t s).2=t
theorem told_same {H:Hd σ} {J I P:σ→Prop} (hb:Stays H J I P) (a:Node) (s:σ) (h:J (told H a s).1) (i:I s):(told H a s).2=a:=by
 unfold told at h ⊢
 cases e:hd a with
 | none=>rfl
 | some p=>
  rw[e] at h
  have h:J (H.decl p.1 p.2 s).1:=h
  simp only[]
  rw[hb.declS _ _ _ h i]
  exact setH_self a p e
theorem par_same {H:Hd σ} {J I P:σ→Prop} (hb:Stays H J I P):∀(a:Node) (s:σ),J (par H a s).1→(I s∧P s)→(par H a s).2=a
 | .mk k nu t l,s,h,i=>by
  have h:J (H.decl 10 t s).1:=h
  simp only[par]
  rw[hb.declS _ _ _ h i.1]
set_option maxHeartbeats 2000000 in
theorem tr_same {H:Hd σ} {J I P:σ→Prop} (hb:Stays H J I P):∀(N:Nat) (n:Node) (s:σ),J (tr H N n s).1→I s→(tr H N n s).2=n
 | 0,n,s,h,i=>rfl
 | N+1,.mk k nu t l,s,h,i=>by
  have hk:=hb.toKeeps
  have hbb:=hk.toBacks
  have ib:=fun l s=>mapA_back (f:=tr H N) (tr_back hbb N) l s
  have ii:=fun l s=>mapA_inv (f:=tr H N) (tr_back hbb N) (tr_inv hk N) l s
  have ih:=fun l s=>mapA_same (f:=tr H N) (tr_back hbb N) (tr_inv hk N) (tr_same hb N) l s
  by_cases h5:k=5
  ·subst h5
   rw[tr5] at h ⊢
   rw[hb.useS _ _ h i]
  by_cases h30:k=30
  ·subst h30
   simp only[tr30] at h ⊢
   have h1:=hk.pop _ h
   have h2:=ib _ _ h1
   have h3:=mapA_back (told_back hbb) _ _ h2
   have i1:=hk.pushI _ _ h3 i
   have i2:=mapA_inv (told_back hbb) (told_inv hk) _ _ h2 i1
   rw[ih _ _ h1 i2,mapA_same (told_back hbb) (told_inv hk) (told_same hb) _ _ h2 i1]
  by_cases h9:k=9
  ·subst h9
   simp only[tr9_] at h ⊢
   have h1:=hk.pop _ h
   have h2:=ib _ _ h1
   have h3:=mapA_back (par_back hbb) _ _ h2
   have i1:=hk.pushI _ _ h3 i
   have i2:=mapA_inv (I:=fun s=>I s∧P s) (par_back hbb) (par_inv hk) _ _ h2 ⟨i1,hk.pushP _⟩
   rw[ih _ _ h1 i2.1,mapA_same (I:=fun s=>I s∧P s) (par_back hbb) (par_inv hk) (par_same hb) _ _ h2 ⟨i1,hk.pushP _⟩,List.take_append_drop]
  by_cases h21:k=21
  ·subst h21
   simp only[tr21] at h ⊢
   split
   ·rename_i hf
    rw[if_pos hf] at h
    rw[ih _ _ h i]
   ·rfl
  by_cases h24:k=24
  ·subst h24
   simp only[tr24] at h ⊢
   have h1:=hk.pop _ h
   have h2:=ib _ _ h1
   have h3:=hk.decl _ _ _ h2
   have h4:=hk.push _ _ h3
   have i1:=hk.pushI _ _ h3 (ii _ _ h4 i)
   have i2:=hk.declI _ _ _ h2 i1 (fun e=>absurd e (by decide))
   rw[ih _ _ h1 i2,hb.declS _ _ _ h2 i1,ih _ _ h4 i,List.take_append_drop]
  by_cases h29:k=29∧nu≠2
  ·obtain⟨rfl,hnu⟩:=h29
   have hc:(29:Int)=29∧nu≠2:=⟨rfl,hnu⟩
   simp only[tr29 _ _ _ hnu] at h ⊢
   have h0:=ib _ _ h
   have h1:=hk.pop _ h0
   have h2:=ib _ _ h1
   have h3:=hk.decl _ _ _ h2
   have h4:=hk.push _ _ h3
   have i1:=hk.pushI _ _ h3 (ii _ _ h4 i)
   have i2:=hk.declI _ _ _ h2 i1 (fun e=>absurd e (by decide))
   have i3:=hk.popI _ h0 (ii _ _ h1 i2)
   rw[ih _ _ h i3,ih _ _ h1 i2,hb.declS _ _ _ h2 i1,ih _ _ h4 i,List.take_append_drop,List.take_append_drop]
  ·simp only[trd _ _ _ _ h5 h30 h9 h21 h24 h29] at h ⊢
   rw[ih _ _ h i]
structure Alike (H G:Hd σ):Prop where
 push:∀d s,H.push d s=G.push d s
 pop:∀s,H.pop s=G.pop s
 decl:∀k t s,(H.decl k t s).1=(G.decl k t s).1
 use:∀t s,(H.use t s).1=(G.use t s).1
structure Balanced {ρ:Type} (H:Hd σ) (v:σ→List ρ):Prop where
 push:∀d s,(v (H.push d s)).tail=v s
 pop:∀s,v (H.pop s)=(v s).tail
 decl:∀k t s,(v (H.decl k t s).1).tail=(v s).tail
 use:∀t s,v (H.use t s).1=v s
theorem mapA_v {β:Type} {f:Node→σ→σ×Node} {v:σ→β} (h:∀a s,v (f a s).1=v s):∀(l:List Node) (s:σ),v (mapA f l s).1=v s
 | [],s=>rfl
 | a :: l,s=>(mapA_v h l _).trans (h a s)
theorem told_v {ρ:Type} {H:Hd σ} {v:σ→List ρ} (hb:Balanced H v) (a:Node) (s:σ):(v (told H a s).1).tail=(v s).tail:=by
 unfold told
 split
 ·exact hb.decl _ _ _
 ·rfl
theorem par_v {ρ:Type} {H:Hd σ} {v:σ→List ρ} (hb:Balanced H v):∀(a:Node) (s:σ),(v (par H a s).1).tail=(v s).tail
 | .mk k nu t l,s=>hb.decl _ _ _
theorem tr_v {ρ:Type} {H:Hd σ} {v:σ→List ρ} (hb:Balanced H v):∀(N:Nat) (n:Node) (s:σ),v (tr H N n s).1=v s
 | 0,n,s=>rfl
 | N+1,.mk k nu t l,s=>by
  have ih:=fun l s=>mapA_v (f:=tr H N) (v:=v) (tr_v hb N) l s
  have it:=fun l s=>mapA_v (f:=told H) (v:=fun s=>(v s).tail) (told_v hb) l s
  have ip:=fun l s=>mapA_v (f:=par H) (v:=fun s=>(v s).tail) (par_v hb) l s
  unfold tr
  split
  ·exact hb.use _ _
  split
  ·simp only[];rw[hb.pop,ih,it,hb.push]
  split
  ·simp only[];rw[hb.pop,ih,ip,hb.push]
  split
  ·split
   ·exact ih _ _
   ·rfl
  split
  ·simp only[];rw[hb.pop,ih,hb.decl,hb.push,ih]
  split
  ·simp only[];rw[ih,hb.pop,ih,hb.decl,hb.push,ih]
  ·exact ih _ _
end
section
variable {σ : Type}
theorem mapA_deeps {f:Node→σ→σ×Node} (h:∀a s,Pars.deep (f a s).2=Pars.deep a):∀(l:List Node) (s:σ),Pars.deeps (mapA f l s).2=Pars.deeps l
 | [],s=>rfl
 | a :: l,s=>by simp only[mapA,Pars.deeps];rw[h,mapA_deeps h l]
theorem setH_deep (x:Bs):∀n:Node,Pars.deep (setH x n)=Pars.deep n
 | .mk k nu t l=>by
  by_cases h1:k=20
  ·subst h1;simp[setH,Pars.deep]
  ·by_cases h2:k=21
   ·subst h2
    match l with
    | []=>simp[setH,Pars.deep]
    | .mk k2 nu2 t2 l2 :: r=>simp[setH,Pars.deep,Pars.deeps]
   ·simp[setH,h1,h2]
theorem told_deep (H:Hd σ) (a:Node) (s:σ):Pars.deep (told H a s).2=Pars.deep a:=by
 unfold told
 split
 ·exact setH_deep _ _
 ·rfl
end
end Scopy
namespace Scopy
open Pars (Node Bs)
structure Decl where
 kind:Int
 name:Bs
 deep:Nat
 caught:Bool
structure Room where
 f:Bs→Option Nat
 deep:Nat
structure St where
 rooms:List Room
 decls:List Decl
 uses:List (Bs×Int)
 e:Nat
def empty:Bs→Option Nat:=fun _=>none
def St.top (s:St):Room:=s.rooms.headD ⟨empty,0⟩
def put (f:Bs→Option Nat) (t:Bs) (k:Nat):Bs→Option Nat:=fun x=>if x=t then some k else f x
def find:List Room→Bs→Option Nat
 | [],_=>none
 | r :: l,t=>match r.f t with | some k=>some k | none=>find l t
def mark (d:List Decl) (k deep:Nat):List Decl:=d.modify k fun x=>{x with caught:=x.caught||decide (x.deep<deep)}
def setName (d:List Decl) (k:Nat) (x:Bs):List Decl:=d.modify k fun y=>{y with name:=x}
def hs (known:List Bs) (dk:Int) (nm:Bs):Hd St where
 push d s:={s with rooms:=⟨empty,s.top.deep+d⟩ :: s.rooms}
 pop s:={s with rooms:=s.rooms.tail}
 decl k t s:=if s.e≠0 then (s,t) else if (s.top.f t).isSome then ({s with e:=6},t) else
  ({s with rooms:={s.top with f:=put s.top.f t s.decls.length} :: s.rooms.tail,decls:=s.decls++[⟨k,t,s.top.deep,false⟩]},if (s.decls.length:Int)=dk then nm else t)
 use t s:=if s.e≠0 then (s,t) else match find s.rooms t with
  | some k=>({s with uses:=s.uses++[(t,(k:Int))],decls:=mark s.decls k s.top.deep},if (k:Int)=dk then nm else t)
  | none=>if known.contains t then ({s with uses:=s.uses++[(t, -1)]},t) else ({s with e:=5},t)
theorem mark_len (d:List Decl) (k deep:Nat):(mark d k deep).length=d.length:=by simp[mark]
theorem mark_get (d:List Decl) (k deep j:Nat):(mark d k deep)[j]? =(d[j]?).map fun x=>if k=j then {x with caught:=x.caught||decide (x.deep<deep)} else x:=by
 unfold mark
 rw[List.getElem?_modify]
 split
 ·rename_i h;subst h;cases d[k]? <;>simp
 ·rename_i h;cases d[j]? <;>simp
theorem setName_len (d:List Decl) (k:Nat) (x:Bs):(setName d k x).length=d.length:=by simp[setName]
theorem setName_get (d:List Decl) (k:Nat) (x:Bs) (j:Nat):(setName d k x)[j]? =(d[j]?).map fun y=>if k=j then {y with name:=x} else y:=by
 unfold setName
 rw[List.getElem?_modify]
 split
 ·rename_i h;subst h;cases d[k]? <;>simp
 ·rename_i h;cases d[j]? <;>simp
section
variable {known : List Bs} {dk : Int} {nm : Bs}
theorem decl_cases (k:Int) (t:Bs) (s:St):(s.e≠0∧(hs known dk nm).decl k t s=(s,t))∨(s.e=0∧(s.top.f t).isSome=true∧(hs known dk nm).decl k t s=({s with e:=6},t))∨
  (s.e=0∧s.top.f t=none∧(hs known dk nm).decl k t s=({s with rooms:={s.top with f:=put s.top.f t s.decls.length} :: s.rooms.tail,decls:=s.decls++[⟨k,t,s.top.deep,false⟩]},if (s.decls.length:Int)=dk then nm else t)):=by
 by_cases h:s.e=0
 ·cases h2:s.top.f t with
  | none=>exact .inr (.inr ⟨h,rfl,by simp[hs,h,h2]⟩)
  | some x=>exact .inr (.inl ⟨h,rfl,by simp[hs,h,h2]⟩)
 ·exact .inl ⟨h,by simp[hs,h]⟩
theorem use_cases (t:Bs) (s:St):(s.e≠0∧(hs known dk nm).use t s=(s,t))∨(s.e=0∧∃k,find s.rooms t=some k∧(hs known dk nm).use t s=({s with uses:=s.uses++[(t,(k:Int))],decls:=mark s.decls k s.top.deep},if (k:Int)=dk then nm else t))∨
  (s.e=0∧find s.rooms t=none∧known.contains t=true∧(hs known dk nm).use t s=({s with uses:=s.uses++[(t, -1)]},t))∨(s.e=0∧find s.rooms t=none∧known.contains t=false∧(hs known dk nm).use t s=({s with e:=5},t)):=by
 by_cases h:s.e=0
 ·cases h2:find s.rooms t with
  | some k=>exact .inr (.inl ⟨h,k,rfl,by simp[hs,h,h2]⟩)
  | none=>
   cases h3:known.contains t with
   | true=>exact .inr (.inr (.inl ⟨h,rfl,rfl,by simp only[hs,h,h2,h3];simp⟩))
   | false=>exact .inr (.inr (.inr ⟨h,rfl,rfl,by simp only[hs,h,h2,h3];simp⟩))
 ·exact .inl ⟨h,by simp[hs,h]⟩
end
theorem balanced (known:List Bs) (dk:Int) (nm:Bs):Balanced (hs known dk nm) St.rooms where
 push _ _:=rfl
 pop _:=rfl
 decl k t s:=by rcases decl_cases (known:=known) (dk:=dk) (nm:=nm) k t s with⟨_,e⟩ | ⟨_,_,e⟩ | ⟨_,_,e⟩<;>rw[e]<;>(try rfl)
 use t s:=by rcases use_cases (known:=known) (dk:=dk) (nm:=nm) t s with⟨_,e⟩ | ⟨_,k,_,e⟩ | ⟨_,_,_,e⟩ | ⟨_,_,_,e⟩<;>rw[e]
theorem rooms_same (known:List Bs) (dk:Int) (nm:Bs) (N:Nat) (n:Node) (s:St):(tr (hs known dk nm) N n s).1.rooms=s.rooms:=tr_v (balanced known dk nm) N n s
theorem backs (known:List Bs) (dk:Int) (nm:Bs):Backs (hs known dk nm) fun s=>s.e=0 where
 push _ _ h:=h
 pop _ h:=h
 decl k t s h:=by
  rcases decl_cases (known:=known) (dk:=dk) (nm:=nm) k t s with⟨e0,e⟩ | ⟨e0,_,e⟩ | ⟨e0,_,e⟩
  ·rw[e] at h;exact h
  ·exact e0
  ·exact e0
 use t s h:=by
  rcases use_cases (known:=known) (dk:=dk) (nm:=nm) t s with⟨_,e⟩ | ⟨e0,_⟩ | ⟨e0,_⟩ | ⟨e0,_⟩
  ·rw[e] at h;exact h
  all_goals exact e0
structure Tells (known:List Bs) (s:St):Prop where
 room:∀r∈s.rooms,∀t k,r.f t=some k→∃d,s.decls[k]? =some d∧d.name=t
 use:∀u∈s.uses,(u.2= -1∧u.1∈known)∨∃(k:Nat) (d:Decl),u.2=k∧s.decls[k]? =some d∧d.name=u.1
theorem find_room:∀(l:List Room) (t:Bs) (k:Nat),find l t=some k→∃r∈l,r.f t=some k
 | r :: l,t,k,h=>by
  unfold find at h
  split at h
  ·rename_i j e;injection h with h;subst h;exact⟨r,by simp,e⟩
  ·obtain⟨q,h1,h2⟩:=find_room l t k h
   exact⟨q,by simp[h1],h2⟩
theorem top_room (s:St) (t:Bs) (k:Nat) (h:s.top.f t=some k):∃r∈s.rooms,r.f t=some k:=by
 unfold St.top at h
 cases e:s.rooms with
 | nil=>rw[e] at h;cases h
 | cons r l=>rw[e] at h;exact⟨r,by simp,h⟩
theorem mark_ex {d:List Decl} {k deep j:Nat} {x:Decl} (h:d[j]? =some x):∃y,(mark d k deep)[j]? =some y∧y.name=x.name∧y.kind=x.kind∧y.deep=x.deep:=by
 rw[mark_get,h]
 refine⟨_,rfl,?_⟩
 split<;>exact⟨rfl,rfl,rfl⟩
theorem tells_decl {known:List Bs} {dk:Int} {nm:Bs} (k:Int) (t:Bs) (s:St) (i:Tells known s):Tells known ((hs known dk nm).decl k t s).1:=by
 rcases decl_cases (known:=known) (dk:=dk) (nm:=nm) k t s with⟨_,e⟩ | ⟨_,_,e⟩ | ⟨_,hn,e⟩
 ·rw[e];exact i
 ·rw[e];exact⟨i.room,i.use⟩
 ·rw[e]
  have old:∀(j:Nat) (d:Decl),s.decls[j]? =some d→(s.decls++[⟨k,t,s.top.deep,false⟩])[j]? =some d:=fun j d h=>by
   rw[List.getElem?_append_left (List.getElem?_eq_some_iff.1 h).1,h]
  refine⟨fun r hr x j hx=> ?_,fun u hu=> ?_⟩
  ·simp only[List.mem_cons] at hr
   rcases hr with rfl | hr
   ·simp only[put] at hx
    split at hx
    ·rename_i hxt;subst hxt;injection hx with hx;subst hx
     exact⟨⟨k,x,s.top.deep,false⟩,by simp,rfl⟩
    ·obtain⟨q,h1,h2⟩:=top_room s x j hx
     obtain⟨d,h3,h4⟩:=i.room q h1 x j h2
     exact⟨d,old j d h3,h4⟩
   ·obtain⟨d,h3,h4⟩:=i.room r (List.mem_of_mem_tail hr) x j hx
    exact⟨d,old j d h3,h4⟩
  ·rcases i.use u hu with h | ⟨j,d,h1,h2,h3⟩
   ·exact .inl h
   ·exact .inr ⟨j,d,h1,old j d h2,h3⟩
theorem tells_use {known:List Bs} {dk:Int} {nm:Bs} (t:Bs) (s:St) (i:Tells known s):Tells known ((hs known dk nm).use t s).1:=by
 rcases use_cases (known:=known) (dk:=dk) (nm:=nm) t s with⟨_,e⟩ | ⟨_,k,hf,e⟩ | ⟨_,hf,hc,e⟩ | ⟨_,_,_,e⟩
 ·rw[e];exact i
 ·rw[e]
  refine⟨fun r hr x j hx=> ?_,fun u hu=> ?_⟩
  ·obtain⟨d,h3,h4⟩:=i.room r hr x j hx
   obtain⟨y,h5,h6,_⟩:=mark_ex (k:=k) (deep:=s.top.deep) h3
   exact⟨y,h5,h6.trans h4⟩
  ·simp only[List.mem_append,List.mem_singleton] at hu
   rcases hu with hu | rfl
   ·rcases i.use u hu with h | ⟨j,d,h1,h2,h3⟩
    ·exact .inl h
    ·obtain⟨y,h5,h6,_⟩:=mark_ex (k:=k) (deep:=s.top.deep) h2
     exact .inr ⟨j,y,h1,h5,h6.trans h3⟩
   ·obtain⟨r,h1,h2⟩:=find_room _ _ _ hf
    obtain⟨d,h3,h4⟩:=i.room r h1 t k h2
    obtain⟨y,h5,h6,_⟩:=mark_ex (k:=k) (deep:=s.top.deep) h3
    exact .inr ⟨k,y,rfl,h5,h6.trans h4⟩
 ·rw[e]
  refine⟨i.room,fun u hu=> ?_⟩
  simp only[List.mem_append,List.mem_singleton] at hu
  rcases hu with hu | rfl
  ·exact i.use u hu
  ·exact .inl ⟨rfl,by simpa using hc⟩
 ·rw[e];exact⟨i.room,i.use⟩
theorem tells_push {known:List Bs} {dk:Int} {nm:Bs} (d:Nat) (s:St) (i:Tells known s):Tells known ((hs known dk nm).push d s):=by
 refine⟨fun r hr t k h=> ?_,i.use⟩
 have hr:r∈⟨empty,s.top.deep+d⟩ :: s.rooms:=hr
 rcases List.mem_cons.1 hr with rfl | hr
 ·cases h
 ·exact i.room r hr t k h
theorem tells_pop {known:List Bs} {dk:Int} {nm:Bs} (s:St) (i:Tells known s):Tells known ((hs known dk nm).pop s):=
 ⟨fun r hr t k h=>i.room r (List.mem_of_mem_tail hr) t k h,i.use⟩
theorem tells (known:List Bs) (dk:Int) (nm:Bs):Keeps (hs known dk nm) (fun _=>True) (Tells known) (fun _=>True) where
 push _ _ _:=trivial
 pop _ _:=trivial
 decl _ _ _ _:=trivial
 use _ _ _:=trivial
 pushI d s _ i:=tells_push d s i
 pushP _:=trivial
 popI s _ i:=tells_pop s i
 declI k t s _ i _:=tells_decl k t s i
 declP _ _ _ _:=trivial
 useI t s _ i:=tells_use t s i
structure Caughts (s:St):Prop where
 used:∀(k:Nat) (d:Decl),s.decls[k]? =some d→d.caught=true→∃u∈s.uses,u.2=(k:Int)
 param:∀(k:Nat) (d:Decl),s.decls[k]? =some d→d.kind=10→1≤d.deep
end Scopy
namespace Scopy
open Pars (Node Bs)
structure BackJ (k:Nat) (old:Bs) (s:St×St):Prop where
 e1:s.1.e=0
 e2:s.2.e=0
 len:s.1.decls.length=s.2.decls.length
 uses:s.1.uses.map (·.2)=s.2.uses.map (·.2)
 name:∀d,s.1.decls[k]? =some d→d.name=old
theorem more (known more:List Bs):Keeps (comp (hs known (-1) []) (hs (known++more) (-1) [])) (fun s=>s.1.e=0) (fun s=>s.2=s.1) (fun _=>True) where
 push _ _ h:=h
 pop _ h:=h
 decl kd t s h:=(backs known (-1) []).decl kd t s.1 h
 use t s h:=(backs known (-1) []).use t s.1 h
 pushI d s _ i:=by
  obtain⟨s1,s2⟩:=s
  obtain rfl:s2=s1:=i
  rfl
 pushP _:=trivial
 popI s _ i:=by
  obtain⟨s1,s2⟩:=s
  obtain rfl:s2=s1:=i
  rfl
 declI kd t s h i _:=by
  obtain⟨s1,s2⟩:=s
  obtain rfl:s2=s1:=i
  have e:((hs known (-1) []).decl kd t s2).2=t:=by
   rcases decl_cases (known:=known) (dk:= -1) (nm:=[]) kd t s2 with⟨_,e⟩ | ⟨_,_,e⟩ | ⟨_,_,e⟩<;>rw[e]
   show (if (s2.decls.length:Int)= -1 then [] else t)=t
   rw[if_neg (by omega)]
  show ((hs (known++more) (-1) []).decl kd ((hs known (-1) []).decl kd t s2).2 s2).1=((hs known (-1) []).decl kd t s2).1
  rw[e]
  rfl
 declP _ _ _ _:=trivial
 useI t s h i:=by
  obtain⟨s1,s2⟩:=s
  obtain rfl:s2=s1:=i
  have h:((hs known (-1) []).use t s2).1.e=0:=h
  show ((hs (known++more) (-1) []).use ((hs known (-1) []).use t s2).2 s2).1=((hs known (-1) []).use t s2).1
  rcases use_cases (known:=known) (dk:= -1) (nm:=[]) t s2 with⟨e0,e⟩ | ⟨e0,j,hj,e⟩ | ⟨e0,hj,hc,e⟩ | ⟨e0,_,_,e⟩
  ·rw[e] at h;exact absurd h e0
  ·rw[e]
   simp only[]
   rw[if_neg (show ¬((j:Int)= -1) by omega)]
   simp[hs,e0,hj]
  ·rw[e]
   have hc2:(known++more).contains t=true:=by simp at hc ⊢;exact .inl hc
   simp only[hs,e0,hj,hc2]
   simp
  ·rw[e] at h;simp at h
def drop1 (k:Nat) (o:Option Nat):Option Nat:=if o=some k then none else o
theorem drop1_none (k:Nat):drop1 k none=none:=rfl
theorem drop1_self (k:Nat):drop1 k (some k)=none:=if_pos rfl
theorem drop1_ne {k j:Nat} (h:j≠k):drop1 k (some j)=some j:=if_neg (by simpa using h)
def Ren (k:Nat) (x:Bs) (r1 r2:Room):Prop:=r2.deep=r1.deep∧(∀y,y≠x→r2.f y=drop1 k (r1.f y))∧((r2.f x=some k∧∃z,r1.f z=some k)∨(r2.f x=none∧∀z,r1.f z≠some k))
inductive Rens (k:Nat) (x:Bs):List Room→List Room→Prop where
 | nil:Rens k x [] []
 | cons (r1 r2:Room) (l1 l2:List Room):Ren k x r1 r2→Rens k x l1 l2→Rens k x (r1 :: l1) (r2 :: l2)
theorem ren_empty (k:Nat) (x:Bs) (d:Nat):Ren k x ⟨empty,d⟩ ⟨empty,d⟩:=⟨rfl,fun y _=>rfl,.inr ⟨rfl,fun z=>by simp[empty]⟩⟩
theorem Rens.head {k:Nat} {x:Bs} {l1 l2:List Room} (h:Rens k x l1 l2):Ren k x (l1.headD ⟨empty,0⟩) (l2.headD ⟨empty,0⟩):=by
 cases h with
 | nil=>exact ren_empty k x 0
 | cons r1 r2 l1 l2 h _=>exact h
theorem Rens.top {k:Nat} {x:Bs} {s1 s2:St} (h:Rens k x s1.rooms s2.rooms):Ren k x s1.top s2.top:=h.head
theorem Rens.tail {k:Nat} {x:Bs} {l1 l2:List Room} (h:Rens k x l1 l2):Rens k x l1.tail l2.tail:=by
 cases h with
 | nil=>exact .nil
 | cons r1 r2 l1 l2 _ h=>exact h
theorem Rens.find {k:Nat} {x:Bs}:∀{l1 l2:List Room},Rens k x l1 l2→∀t,t≠x→(Scopy.find l1 t=none→Scopy.find l2 t=none)∧(∀j,Scopy.find l1 t=some j→j≠k→Scopy.find l2 t=some j)∧(Scopy.find l1 t=some k→Scopy.find l2 x=some k)
 | _,_,.nil,t,ht=>⟨fun _=>rfl,fun j h=>by simp[Scopy.find] at h,fun h=>by simp[Scopy.find] at h⟩
 | _,_,.cons r1 r2 l1 l2 ⟨_,h2,h3⟩ hl,t,ht=>by
  obtain⟨i1,i2,i3⟩:=Rens.find hl t ht
  have e:=h2 t ht
  refine⟨fun h=> ?_,fun j h hj=> ?_,fun h=> ?_⟩
  ·unfold Scopy.find at h ⊢
   cases hf:r1.f t with
   | some j=>rw[hf] at h;cases h
   | none=>rw[hf] at h e;rw[drop1_none] at e;rw[e];exact i1 h
  ·unfold Scopy.find at h ⊢
   cases hf:r1.f t with
   | some j2=>
    rw[hf] at h e
    injection h with h
    subst h
    rw[e,drop1_ne hj]
   | none=>rw[hf] at h e;rw[drop1_none] at e;rw[e];exact i2 j h hj
  ·unfold Scopy.find at h ⊢
   cases hf:r1.f t with
   | some j2=>
    rw[hf] at h
    injection h with h
    subst h
    rcases h3 with⟨a,_⟩ | ⟨_,b⟩
    ·rw[a]
    ·exact absurd hf (b t)
   | none=>
    rw[hf] at h
    rcases h3 with⟨a,_⟩ | ⟨a,_⟩
    ·rw[a]
    ·rw[a];exact i3 h
structure FreshJ (x:Bs) (s:St×St):Prop where
 e1:s.1.e=0
 decls:∀d∈s.1.decls,d.name≠x
 uses:∀u∈s.1.uses,u.1≠x
structure FreshI (known:List Bs) (k:Nat) (x:Bs) (s:St×St):Prop where
 e2:s.2.e=0
 rooms:Rens k x s.1.rooms s.2.rooms
 decls:s.2.decls=setName s.1.decls k x
 uses:s.2.uses.map (·.2)=s.1.uses.map (·.2)
 tells:Tells known s.1
theorem mark_setName (d:List Decl) (j dp k:Nat) (x:Bs):mark (setName d k x) j dp=setName (mark d j dp) k x:=by
 apply List.ext_getElem?
 intro i
 rw[mark_get,setName_get,setName_get,mark_get]
 cases d[i]? with
 | none=>rfl
 | some y=>
  simp only[Option.map_some]
  by_cases h1:j=i<;>by_cases h2:k=i<;>simp[h1,h2]
theorem fresh_decl {known:List Bs} {k:Nat} {x:Bs} (kd:Int) (t:Bs) (s:St×St) (h:FreshJ x ((comp (hs known k x) (hs known (-1) [])).decl kd t s).1):FreshJ x s∧(FreshI known k x s→FreshI known k x ((comp (hs known k x) (hs known (-1) [])).decl kd t s).1):=by
 obtain⟨s1,s2⟩:=s
 have htl:=fun i=>tells_decl (known:=known) (dk:=k) (nm:=x) kd t s1 i
 obtain⟨h1,h2,h3⟩:=h
 simp only[comp] at h1 h2 h3 ⊢
 rcases decl_cases (known:=known) (dk:=k) (nm:=x) kd t s1 with⟨e0,e⟩ | ⟨e0,_,e⟩ | ⟨e0,hn,e⟩
 ·rw[e] at h1;exact absurd h1 e0
 ·rw[e] at h1;simp at h1
 ·rw[e] at h1 h2 h3 htl ⊢
  simp only[] at h1 h2 h3 ⊢
  have htx:t≠x:=h2 ⟨kd,t,s1.top.deep,false⟩ (by simp)
  refine⟨⟨e0,fun d hd=>h2 d (by simp[hd]),h3⟩,fun i=> ?_⟩
  obtain⟨i1,i2,i3,i4,i5⟩:=i
  simp only[] at i1 i2 i3 i4 i5
  obtain⟨r0,r1,r2⟩:=i2.top
  have hlen:s2.decls.length=s1.decls.length:=by rw[i3,setName_len]
  have hk:∀z,s1.top.f z≠some s1.decls.length:=fun z hz=>by
   obtain⟨r,q1,q2⟩:=top_room s1 z _ hz
   obtain⟨d,q3,_⟩:=i5.room r q1 z _ q2
   have:=(List.getElem?_eq_some_iff.1 q3).1
   omega
  have h20:s2.top.f (if (s1.decls.length:Int)=k then x else t)=none:=by
   by_cases hkk:(s1.decls.length:Int)=k
   ·rw[if_pos hkk]
    have hkk:s1.decls.length=k:=by omega
    rcases r2 with⟨_,z,hz⟩ | ⟨a,_⟩
    ·rw[←hkk] at hz;exact absurd hz (hk z)
    ·exact a
   ·rw[if_neg hkk,r1 t htx,hn];rfl
  have e2:(hs known (-1) []).decl kd (if (s1.decls.length:Int)=k then x else t) s2=({s2 with rooms:={s2.top with f:=put s2.top.f (if (s1.decls.length:Int)=k then x else t) s2.decls.length} :: s2.rooms.tail,decls:=s2.decls++[⟨kd,if (s1.decls.length:Int)=k then x else t,s2.top.deep,false⟩]},if (s2.decls.length:Int)= -1 then [] else (if (s1.decls.length:Int)=k then x else t)):=by
   rcases decl_cases (known:=known) (dk:= -1) (nm:=[]) kd (if (s1.decls.length:Int)=k then x else t) s2 with⟨f0,f⟩ | ⟨_,f0,f⟩ | ⟨_,_,f⟩
   ·exact absurd i1 f0
   ·rw[h20] at f0;cases f0
   ·exact f
  rw[e2]
  refine⟨i1,.cons _ _ _ _ ⟨r0,fun y hy=> ?_,?_⟩ i2.tail,?_,i4,htl i5⟩
  ·simp only[put]
   by_cases hkk:(s1.decls.length:Int)=k
   ·have hkk2:s1.decls.length=k:=by omega
    rw[if_pos hkk,if_neg hy,r1 y hy]
    by_cases hyt:y=t
    ·subst hyt;rw[hn,if_pos rfl,hkk2,drop1_self];rfl
    ·rw[if_neg hyt]
   ·rw[if_neg hkk]
    by_cases hyt:y=t
    ·subst hyt
     have:¬s1.decls.length=k:=by omega
     rw[if_pos rfl,if_pos rfl,hlen,drop1_ne this]
    ·rw[if_neg hyt,if_neg hyt,r1 y hy]
  ·simp only[put]
   by_cases hkk:(s1.decls.length:Int)=k
   ·have hkk2:s1.decls.length=k:=by omega
    rw[if_pos hkk]
    exact .inl ⟨by simp[hlen,hkk2],t,by simp[hkk2]⟩
   ·have hkk2:¬s1.decls.length=k:=by omega
    rw[if_neg hkk,if_neg (fun e=>htx e.symm)]
    rcases r2 with⟨a,z,hz⟩ | ⟨a,b⟩
    ·refine .inl ⟨a,z,?_⟩
     have:z≠t:=fun e=>by subst e;rw[hn] at hz;cases hz
     rw[if_neg this];exact hz
    ·refine .inr ⟨a,fun z=> ?_⟩
     split
     ·simpa using hkk2
     ·exact b z
  ·simp only[]
   rw[i3,r0]
   apply List.ext_getElem?
   intro j
   rw[setName_get]
   by_cases hj:j<s1.decls.length
   ·rw[List.getElem?_append_left (by rw[setName_len];exact hj),List.getElem?_append_left hj,setName_get]
   ·rw[List.getElem?_append_right (by rw[setName_len];omega),List.getElem?_append_right (by omega),setName_len]
    cases hj2:j - s1.decls.length with
    | zero=>
     have:j=s1.decls.length:=by omega
     subst this
     by_cases hkk:(s1.decls.length:Int)=k
     ·have hkk2:k=s1.decls.length:=by omega
      simp[hkk2]
     ·have hkk2:¬k=s1.decls.length:=by omega
      rw[if_neg hkk];simp[hkk2]
    | succ m=>simp
theorem fresh_use {known:List Bs} {k:Nat} {x:Bs} (t:Bs) (s:St×St) (h:FreshJ x ((comp (hs known k x) (hs known (-1) [])).use t s).1):FreshJ x s∧(FreshI known k x s→FreshI known k x ((comp (hs known k x) (hs known (-1) [])).use t s).1):=by
 obtain⟨s1,s2⟩:=s
 have htl:=fun i=>tells_use (known:=known) (dk:=k) (nm:=x) t s1 i
 obtain⟨h1,h2,h3⟩:=h
 simp only[comp] at h1 h2 h3 ⊢
 rcases use_cases (known:=known) (dk:=k) (nm:=x) t s1 with⟨e0,e⟩ | ⟨e0,j,hj,e⟩ | ⟨e0,hj,hc,e⟩ | ⟨e0,_,_,e⟩
 ·rw[e] at h1;exact absurd h1 e0
 ·rw[e] at h1 h2 h3 htl ⊢
  simp only[] at h1 h2 h3 ⊢
  have htx:t≠x:=h3 (t,(j:Int)) (by simp)
  refine⟨⟨e0,fun d hd=> ?_,fun u hu=>h3 u (by simp[hu])⟩,fun i=> ?_⟩
  ·have hd:d∈s1.decls:=hd
   obtain⟨i,hi⟩:=List.getElem?_of_mem hd
   obtain⟨y,a,b,_⟩:=mark_ex (k:=j) (deep:=s1.top.deep) hi
   rw[←b]
   exact h2 y (List.mem_of_getElem? a)
  obtain⟨i1,i2,i3,i4,i5⟩:=i
  simp only[] at i1 i2 i3 i4 i5
  have r0:=i2.top.1
  obtain⟨f1,f2,f3⟩:=i2.find t htx
  have hf:find s2.rooms (if (j:Int)=k then x else t)=some j:=by
   by_cases hk:(j:Int)=k
   ·have hk2:j=k:=by omega
    subst hk2
    rw[if_pos hk];exact f3 hj
   ·rw[if_neg hk];exact f2 j hj (by omega)
  rcases use_cases (known:=known) (dk:= -1) (nm:=[]) (if (j:Int)=k then x else t) s2 with⟨f0,f⟩ | ⟨f0,j2,hj2,f⟩ | ⟨f0,hj2,_,f⟩ | ⟨f0,hj2,_,f⟩
  ·exact absurd i1 f0
  ·rw[f]
   rw[hf] at hj2
   injection hj2 with hj2
   subst hj2
   refine⟨i1,i2,?_,?_,htl i5⟩
   ·simp only[];rw[i3,r0,mark_setName]
   ·simp only[List.map_append,List.map_cons,List.map_nil];rw[i4]
  ·rw[hf] at hj2;cases hj2
  ·rw[hf] at hj2;cases hj2
 ·rw[e] at h1 h2 h3 htl ⊢
  simp only[] at h1 h2 h3 ⊢
  have htx:t≠x:=h3 (t, -1) (by simp)
  refine⟨⟨e0,h2,fun u hu=>h3 u (by simp[hu])⟩,fun i=> ?_⟩
  obtain⟨i1,i2,i3,i4,i5⟩:=i
  simp only[] at i1 i2 i3 i4 i5
  obtain⟨f1,f2,f3⟩:=i2.find t htx
  rcases use_cases (known:=known) (dk:= -1) (nm:=[]) t s2 with⟨f0,f⟩ | ⟨f0,j2,hj2,f⟩ | ⟨f0,hj2,_,f⟩ | ⟨f0,hj2,hc2,f⟩
  ·exact absurd i1 f0
  ·rw[f1 hj] at hj2;cases hj2
  ·rw[f]
   refine⟨i1,i2,i3,?_,htl i5⟩
   simp only[List.map_append,List.map_cons,List.map_nil];rw[i4]
  ·rw[hc] at hc2;cases hc2
 ·rw[e] at h1;simp at h1
theorem fresh (known:List Bs) (k:Nat) (x:Bs):Keeps (comp (hs known k x) (hs known (-1) [])) (FreshJ x) (FreshI known k x) (fun _=>True) where
 push d s h:=⟨h.e1,h.decls,h.uses⟩
 pop s h:=⟨h.e1,h.decls,h.uses⟩
 decl kd t s h:=(fresh_decl kd t s h).1
 use t s h:=(fresh_use t s h).1
 pushI d s _ i:=⟨i.e2,by
  have e:=i.rooms.top.1
  show Rens k x (⟨empty,s.1.top.deep+d⟩ :: s.1.rooms) (⟨empty,s.2.top.deep+d⟩ :: s.2.rooms)
  rw[e]
  exact .cons _ _ _ _ (ren_empty k x _) i.rooms,i.decls,i.uses,tells_push (dk:=(k:Int)) (nm:=x) d s.1 i.tells⟩
 pushP _:=trivial
 popI s _ i:=⟨i.e2,i.rooms.tail,i.decls,i.uses,tells_pop (dk:=(k:Int)) (nm:=x) s.1 i.tells⟩
 declI kd t s h i _:=(fresh_decl kd t s h).2 i
 declP _ _ _ _:=trivial
 useI t s h i:=(fresh_use t s h).2 i
end Scopy
namespace Wri
open Pars (Node Bs)
theorem param_of {fn lp:Bool}:∀n:Node,n.kind=10→right n fn lp=true→∃p,n= .mk 10 0 p []∧name p=true
 | .mk k nu t l,hk,h=>by
  have hk2:k=10:=hk
  subst hk2
  rw[right_eq] at h
  simp only[Bool.and_eq_true] at h
  obtain⟨_,hf,_,_,hc,_⟩:=h
  have hc2:count [] l.length=true:=by simpa [form,plain] using hc
  obtain rfl:=len0 hc2
  simp[fields] at hf
  obtain⟨rfl,h2⟩:=hf
  exact⟨t,rfl,h2⟩
theorem params (fn:Bool):∀l:List Node,(∀x∈l,sort x 113=true∧right x fn false=true)→∃ps:List Bs,l=ps.map (fun p=> .mk 10 0 p [])∧∀p∈ps,name p=true
 | [],_=>⟨[],rfl,fun p hp=>by cases hp⟩
 | n :: l,h=>by
  obtain⟨ps,h1,h2⟩:=params fn l fun x hx=>h x (by simp[hx])
  obtain⟨p,h3,h4⟩:=param_of n ((sort_q n).1 (h n (by simp)).1) (h n (by simp)).2
  refine⟨p :: ps,by rw[h1,h3];rfl,fun q hq=> ?_⟩
  rcases List.mem_cons.1 hq with rfl | hq
  ·exact h4
  ·exact h2 q hq
set_option maxHeartbeats 2000000 in
theorem rt_of:∀(n:Node) (fn lp:Bool),right n fn lp=true→Rt fn lp n:=by
 refine ind fun k nu t l ih fn lp h=> ?_
 rw[right_eq] at h
 simp only[Bool.and_eq_true] at h
 obtain⟨h1,hf,h25,h26,hc,hr⟩:=h
 have hk1:=kinds (k:=k) (m:=l.length) h1
 have hk:k=1∨k=2∨k=3∨k=4∨k=5∨k=6∨k=7∨k=8∨k=9∨k=10∨k=11∨k=12∨k=13∨k=14∨k=15∨k=16∨k=17∨k=18∨k=19∨k=20∨k=21∨k=22∨k=23∨k=24∨k=25∨k=26∨k=27∨k=28∨k=29∨k=30∨k=31:=by omega
 clear h1 hk1
 rcases hk with rfl | rfl | rfl | rfl | rfl | rfl | rfl | rfl | rfl | rfl | rfl | rfl | rfl | rfl | rfl | rfl | rfl | rfl | rfl | rfl | rfl | rfl | rfl | rfl | rfl | rfl | rfl | rfl | rfl | rfl | rfl
 ·-- 1
  have hc2:count [] l.length=true:=by simpa [form,plain] using hc
  obtain rfl:=len0 hc2
  simp[fields] at hf
  obtain⟨⟨h1,h2⟩,rfl⟩:=hf
  exact .num fn lp _ h1 h2
 ·-- 2
  have hc2:count [] l.length=true:=by simpa [form,plain] using hc
  obtain rfl:=len0 hc2
  simp[fields] at hf
  subst hf
  exact .str fn lp t
 ·-- 3
  have hc2:count [] l.length=true:=by simpa [form,plain] using hc
  obtain rfl:=len0 hc2
  simp[fields] at hf
  obtain⟨h1,rfl⟩:=hf
  exact .bool fn lp _ h1
 ·-- 4
  have hc2:count [] l.length=true:=by simpa [form,plain] using hc
  obtain rfl:=len0 hc2
  simp[fields] at hf
  obtain⟨rfl,rfl⟩:=hf
  exact .null fn lp
 ·-- 5
  have hc2:count [] l.length=true:=by simpa [form,plain] using hc
  obtain rfl:=len0 hc2
  simp[fields] at hf
  obtain⟨rfl,h2⟩:=hf
  exact .var fn lp t h2
 ·-- 6
  simp[fields] at hf
  obtain⟨rfl,rfl⟩:=hf
  have hr2:rights [101] 6 fn lp 0 l=true:=by simpa [form,plain,show bare [101,42]=[101] from by decide] using hr
  rw[rights_all 101 (by decide) 6 (by decide)] at hr2
  exact .list fn lp l (fun x hx=>(sort_e x).1 (hr2 x hx).1) fun x hx=>ih x hx _ _ (hr2 x hx).2
 ·-- 7
  simp[fields] at hf
  obtain⟨rfl,rfl⟩:=hf
  have hr2:rights [112] 7 fn lp 0 l=true:=by simpa [form,plain,show bare [112,42]=[112] from by decide] using hr
  rw[rights_all 112 (by decide) 7 (by decide)] at hr2
  exact .recd fn lp l (fun x hx=>(sort_p x).1 (hr2 x hx).1) fun x hx=>ih x hx _ _ (hr2 x hx).2
 ·-- 8
  have hc2:count [101] l.length=true:=by simpa [form,plain] using hc
  obtain⟨a,rfl⟩:=len1 (f:=[101]) (by decide) (by decide) hc2
  simp[fields] at hf
  obtain⟨rfl,h2⟩:=hf
  have hr2:rights [101] 8 fn lp 0 [a]=true:=by simpa [form,plain,show bare [101]=[101] from by decide] using hr
  simp[rights_cons,rights_nil,sort_e] at hr2
  obtain⟨s1,r1⟩:=hr2
  have i1:=ih a (by simp) _ _ r1
  exact .pair fn lp t a h2 s1 i1
 ·-- 9
  simp[fields] at hf
  obtain⟨rfl,h2⟩:=hf
  have hc2:count (List.replicate (l.length - 1) 113++[103]) l.length=true:=by simpa [form,plain] using hc
  have hr2:rights (bare (List.replicate (l.length - 1) 113++[103])) 9 fn lp 0 l=true:=by simpa [form,plain] using hr
  obtain⟨hb9,hs9⟩:=bare9 (l.length - 1)
  rw[hb9] at hr2
  unfold count at hc2
  rw[hs9,hb9] at hc2
  simp at hc2
  have hl:l=l.take (l.length - 1)++[l.getD (l.length - 1) default]:=by
   rw[List.getD_eq_getElem?_getD,List.getElem?_eq_getElem (by omega),Option.getD_some]
   have e:=List.take_append_drop (l.length - 1) l
   rw[List.drop_eq_getElem_cons (by omega),List.drop_of_length_le (by omega)] at e
   exact e.symm
  rw[hl] at hr2 ih ⊢
  rw[show (l.take (l.length - 1)++[l.getD (l.length - 1) default]).length - 1=l.length - 1 from by rw[←hl]] at hr2
  rw[rights_fn (l.length - 1) fn lp _ _ 0 (by simp)] at hr2
  obtain⟨h3,h4,h5⟩:=hr2
  obtain⟨ps,hps,hpn⟩:=params fn (l.take (l.length - 1)) h3
  rw[hps]
  exact .func fn lp t ps _ h2 hpn ((sort_g _).1 h4) (ih _ (by simp) _ _ h5)
 ·-- 10
  have hc2:count [] l.length=true:=by simpa [form,plain] using hc
  obtain rfl:=len0 hc2
  simp[fields] at hf
  obtain⟨rfl,h2⟩:=hf
  exact .param fn lp t h2
 ·-- 11
  simp[fields] at hf
  obtain⟨rfl,rfl⟩:=hf
  have hc2:count [101,101,42] l.length=true:=by simpa [form,plain] using hc
  unfold count at hc2
  rw[show (bare [101,101,42]).length=2 from by decide] at hc2
  simp at hc2
  obtain⟨a,q,rfl⟩:∃a q,l=a :: q:=by
   cases l with
   | nil=>simp at hc2
   | cons a q=>exact⟨a,q,rfl⟩
  have hr2:rights [101,101] 11 fn lp 0 (a :: q)=true:=by simpa [form,plain,show bare [101,101,42]=[101,101] from by decide] using hr
  rw[rights_cons,Bool.and_eq_true,Bool.and_eq_true,rights_tail 101 101 (by decide) 11 (by decide) fn lp q 1 (by omega)] at hr2
  simp at hr2
  obtain⟨s1,r1,h3⟩:=hr2
  exact .call fn lp a q ((sort_e a).1 s1) (ih a (by simp) _ _ r1) (fun x hx=>(sort_e x).1 (h3 x hx).1) fun x hx=>ih x (by simp[hx]) _ _ (h3 x hx).2
 ·-- 12
  have hc2:count [101,101] l.length=true:=by simpa [form,plain] using hc
  obtain⟨a,b,rfl⟩:=len2 (f:=[101,101]) (by decide) (by decide) hc2
  simp[fields] at hf
  obtain⟨rfl,rfl⟩:=hf
  have hr2:rights [101,101] 12 fn lp 0 [a,b]=true:=by simpa [form,plain,show bare [101,101]=[101,101] from by decide] using hr
  simp[rights_cons,rights_nil,sort_e] at hr2
  obtain⟨s1,r1,s2,r2⟩:=hr2
  have i1:=ih a (by simp) _ _ r1
  have i2:=ih b (by simp) _ _ r2
  exact .index fn lp a b s1 i1 s2 i2
 ·-- 13
  have hc2:count [101] l.length=true:=by simpa [form,plain] using hc
  obtain⟨a,rfl⟩:=len1 (f:=[101]) (by decide) (by decide) hc2
  simp[fields] at hf
  obtain⟨rfl,h2⟩:=hf
  have hr2:rights [101] 13 fn lp 0 [a]=true:=by simpa [form,plain,show bare [101]=[101] from by decide] using hr
  simp[rights_cons,rights_nil,sort_e] at hr2
  obtain⟨s1,r1⟩:=hr2
  have i1:=ih a (by simp) _ _ r1
  exact .dot fn lp t a h2 s1 i1
 ·-- 14
  have hc2:count [101] l.length=true:=by simpa [form,plain] using hc
  obtain⟨a,rfl⟩:=len1 (f:=[101]) (by decide) (by decide) hc2
  simp[fields] at hf
  obtain⟨rfl,h2⟩:=hf
  have hr2:rights [101] 14 fn lp 0 [a]=true:=by simpa [form,plain,show bare [101]=[101] from by decide] using hr
  simp[rights_cons,rights_nil,sort_e] at hr2
  obtain⟨s1,r1⟩:=hr2
  have i1:=ih a (by simp) _ _ r1
  exact .unary fn lp t a (one_unary.1 h2) s1 i1
 ·-- 15
  have hc2:count [101,101] l.length=true:=by simpa [form,plain] using hc
  obtain⟨a,b,rfl⟩:=len2 (f:=[101,101]) (by decide) (by decide) hc2
  simp[fields] at hf
  obtain⟨rfl,h2⟩:=hf
  have hr2:rights [101,101] 15 fn lp 0 [a,b]=true:=by simpa [form,plain,show bare [101,101]=[101,101] from by decide] using hr
  simp[rights_cons,rights_nil,sort_e] at hr2
  obtain⟨s1,r1,s2,r2⟩:=hr2
  have i1:=ih a (by simp) _ _ r1
  have i2:=ih b (by simp) _ _ r2
  exact .binary fn lp t a b (one_binary.1 h2) s1 i1 s2 i2
 ·-- 16
  have hc2:count [101,101] l.length=true:=by simpa [form,plain] using hc
  obtain⟨a,b,rfl⟩:=len2 (f:=[101,101]) (by decide) (by decide) hc2
  simp[fields] at hf
  obtain⟨rfl,rfl⟩:=hf
  have hr2:rights [101,101] 16 fn lp 0 [a,b]=true:=by simpa [form,plain,show bare [101,101]=[101,101] from by decide] using hr
  simp[rights_cons,rights_nil,sort_e] at hr2
  obtain⟨s1,r1,s2,r2⟩:=hr2
  have i1:=ih a (by simp) _ _ r1
  have i2:=ih b (by simp) _ _ r2
  exact .and_ fn lp a b s1 i1 s2 i2
 ·-- 17
  have hc2:count [101,101] l.length=true:=by simpa [form,plain] using hc
  obtain⟨a,b,rfl⟩:=len2 (f:=[101,101]) (by decide) (by decide) hc2
  simp[fields] at hf
  obtain⟨rfl,rfl⟩:=hf
  have hr2:rights [101,101] 17 fn lp 0 [a,b]=true:=by simpa [form,plain,show bare [101,101]=[101,101] from by decide] using hr
  simp[rights_cons,rights_nil,sort_e] at hr2
  obtain⟨s1,r1,s2,r2⟩:=hr2
  have i1:=ih a (by simp) _ _ r1
  have i2:=ih b (by simp) _ _ r2
  exact .or_ fn lp a b s1 i1 s2 i2
 ·-- 18
  have hc2:count [101,101,101] l.length=true:=by simpa [form,plain] using hc
  obtain⟨a,b,c,rfl⟩:=len3 (f:=[101,101,101]) (by decide) (by decide) hc2
  simp[fields] at hf
  obtain⟨rfl,rfl⟩:=hf
  have hr2:rights [101,101,101] 18 fn lp 0 [a,b,c]=true:=by simpa [form,plain,show bare [101,101,101]=[101,101,101] from by decide] using hr
  simp[rights_cons,rights_nil,sort_e] at hr2
  obtain⟨s1,r1,s2,r2,s3,r3⟩:=hr2
  exact .cond fn lp a b c s1 (ih a (by simp) _ _ r1) s2 (ih b (by simp) _ _ r2) s3 (ih c (by simp) _ _ r3)
 ·-- 19
  have hc2:count [116,101] l.length=true:=by simpa [form,plain] using hc
  obtain⟨a,b,rfl⟩:=len2 (f:=[116,101]) (by decide) (by decide) hc2
  simp[fields] at hf
  obtain⟨rfl,rfl⟩:=hf
  have hr2:rights [116,101] 19 fn lp 0 [a,b]=true:=by simpa [form,plain,show bare [116,101]=[116,101] from by decide] using hr
  simp[rights_cons,rights_nil,sort_e,sort_t] at hr2
  obtain⟨s1,r1,s2,r2⟩:=hr2
  have i1:=ih a (by simp) _ _ r1
  have i2:=ih b (by simp) _ _ r2
  exact .assign fn lp a b s1 i1 s2 i2
 ·-- 20
  have hc2:count [101] l.length=true:=by simpa [form,plain] using hc
  obtain⟨a,rfl⟩:=len1 (f:=[101]) (by decide) (by decide) hc2
  simp[fields] at hf
  obtain⟨rfl,h2⟩:=hf
  have hr2:rights [101] 20 fn lp 0 [a]=true:=by simpa [form,plain,show bare [101]=[101] from by decide] using hr
  simp[rights_cons,rights_nil,sort_e] at hr2
  obtain⟨s1,r1⟩:=hr2
  have i1:=ih a (by simp) _ _ r1
  exact .let_ fn lp t a h2 s1 i1
 ·-- 21
  have hc2:count [100] l.length=true:=by simpa [form,plain] using hc
  obtain⟨a,rfl⟩:=len1 (f:=[100]) (by decide) (by decide) hc2
  simp[fields] at hf
  obtain⟨rfl,rfl⟩:=hf
  have hr2:rights [100] 21 fn lp 0 [a]=true:=by simpa [form,plain,show bare [100]=[100] from by decide] using hr
  simp[rights_cons,rights_nil,sort_d] at hr2
  obtain⟨s1,r1⟩:=hr2
  have i1:=ih a (by simp) _ _ r1
  exact .def_ fn lp a s1.1 s1.2 i1
 ·-- 22
  simp[fields] at hf
  obtain⟨rfl,rfl⟩:=hf
  by_cases h3:l.length=3
  ·have hc2:count [101,98,105] l.length=true:=by simpa [form,plain,h3] using hc
   have hr2:rights [101,98,105] 22 fn lp 0 l=true:=by simpa [form,plain,h3,show bare [101,98,105]=[101,98,105] from by decide] using hr
   obtain⟨a,b,c,rfl⟩:=len3 (f:=[101,98,105]) (by decide) (by decide) hc2
   simp[rights_cons,rights_nil,sort_e,sort_b,sort_i] at hr2
   obtain⟨s1,r1,s2,r2,s3,r3⟩:=hr2
   exact .if3 fn lp a b c s1 (ih a (by simp) _ _ r1) s2 (ih b (by simp) _ _ r2) s3 (ih c (by simp) _ _ r3)
  ·have hc2:count [101,98] l.length=true:=by simpa [form,plain,h3] using hc
   have hr2:rights [101,98] 22 fn lp 0 l=true:=by simpa [form,plain,h3,show bare [101,98]=[101,98] from by decide] using hr
   obtain⟨a,b,rfl⟩:=len2 (f:=[101,98]) (by decide) (by decide) hc2
   simp[rights_cons,rights_nil,sort_e,sort_b] at hr2
   obtain⟨s1,r1,s2,r2⟩:=hr2
   exact .if2 fn lp a b s1 (ih a (by simp) _ _ r1) s2 (ih b (by simp) _ _ r2)
 ·-- 23
  have hc2:count [101,108] l.length=true:=by simpa [form,plain] using hc
  obtain⟨a,b,rfl⟩:=len2 (f:=[101,108]) (by decide) (by decide) hc2
  simp[fields] at hf
  obtain⟨rfl,rfl⟩:=hf
  have hr2:rights [101,108] 23 fn lp 0 [a,b]=true:=by simpa [form,plain,show bare [101,108]=[101,108] from by decide] using hr
  simp[rights_cons,rights_nil,sort_e,sort_l] at hr2
  obtain⟨s1,r1,s2,r2⟩:=hr2
  have i1:=ih a (by simp) _ _ r1
  have i2:=ih b (by simp) _ _ r2
  exact .while_ fn lp a b s1 i1 s2 i2
 ·-- 24
  have hc2:count [101,108] l.length=true:=by simpa [form,plain] using hc
  obtain⟨a,b,rfl⟩:=len2 (f:=[101,108]) (by decide) (by decide) hc2
  simp[fields] at hf
  obtain⟨rfl,h2⟩:=hf
  have hr2:rights [101,108] 24 fn lp 0 [a,b]=true:=by simpa [form,plain,show bare [101,108]=[101,108] from by decide] using hr
  simp[rights_cons,rights_nil,sort_e,sort_l] at hr2
  obtain⟨s1,r1,s2,r2⟩:=hr2
  have i1:=ih a (by simp) _ _ r1
  have i2:=ih b (by simp) _ _ r2
  exact .for_ fn lp t a b h2 s1 i1 s2 i2
 ·-- 25
  simp[fields] at hf
  obtain⟨rfl,rfl⟩:=hf
  have hfn:fn=true:=by simpa using h25
  subst hfn
  by_cases h3:l.length=1
  ·have hr2:rights [101] 25 true lp 0 l=true:=by simpa [form,plain,h3,show bare [101]=[101] from by decide] using hr
   obtain⟨a,rfl⟩:=List.length_eq_one_iff.1 h3
   simp[rights_cons,rights_nil,sort_e] at hr2
   obtain⟨s1,r1⟩:=hr2
   exact .ret1 lp a s1 (ih a (by simp) _ _ r1)
  ·have hc2:count [] l.length=true:=by simpa [form,plain,h3] using hc
   obtain rfl:=len0 hc2
   exact .ret0 lp
 ·-- 26
  have hc2:count [] l.length=true:=by simpa [form,plain] using hc
  obtain rfl:=len0 hc2
  simp[fields] at hf
  obtain⟨rfl,rfl⟩:=hf
  have hlp:lp=true:=by simpa using h26
  subst hlp
  exact .brk fn
 ·-- 27
  have hc2:count [] l.length=true:=by simpa [form,plain] using hc
  obtain rfl:=len0 hc2
  simp[fields] at hf
  obtain⟨rfl,rfl⟩:=hf
  have hlp:lp=true:=by simpa using h26
  subst hlp
  exact .cont fn
 ·-- 28
  have hc2:count [101] l.length=true:=by simpa [form,plain] using hc
  obtain⟨a,rfl⟩:=len1 (f:=[101]) (by decide) (by decide) hc2
  simp[fields] at hf
  obtain⟨rfl,rfl⟩:=hf
  have hr2:rights [101] 28 fn lp 0 [a]=true:=by simpa [form,plain,show bare [101]=[101] from by decide] using hr
  simp[rights_cons,rights_nil,sort_e] at hr2
  obtain⟨s1,r1⟩:=hr2
  have i1:=ih a (by simp) _ _ r1
  exact .throw fn lp a s1 i1
 ·-- 29
  simp[fields] at hf
  by_cases h3:nu=3
  ·subst h3
   have hc2:count [98,98,98] l.length=true:=by simpa [form,plain] using hc
   have hr2:rights [98,98,98] 29 fn lp 0 l=true:=by simpa [form,plain,show bare [98,98,98]=[98,98,98] from by decide] using hr
   obtain⟨a,b,c,rfl⟩:=len3 (f:=[98,98,98]) (by decide) (by decide) hc2
   simp[rights_cons,rights_nil,sort_b] at hr2
   obtain⟨s1,r1,s2,r2,s3,r3⟩:=hr2
   exact .try3 fn lp t a b c (by simpa using hf) s1 (ih a (by simp) _ _ r1) s2 (ih b (by simp) _ _ r2) s3 (ih c (by simp) _ _ r3)
  ·have hc2:count [98,98] l.length=true:=by simpa [form,plain,h3] using hc
   have hr2:rights [98,98] 29 fn lp 0 l=true:=by simpa [form,plain,h3,show bare [98,98]=[98,98] from by decide] using hr
   obtain⟨a,b,rfl⟩:=len2 (f:=[98,98]) (by decide) (by decide) hc2
   simp[rights_cons,rights_nil,sort_b] at hr2
   obtain⟨s1,r1,s2,r2⟩:=hr2
   have i1:=ih a (by simp) _ _ r1
   have i2:=ih b (by simp) _ _ r2
   obtain⟨⟨g1,g2⟩,g3⟩:=hf
   by_cases h2:nu=2
   ·subst h2
    obtain rfl:t=[]:=by simpa using g3
    exact .try2 fn lp a b s1 i1 s2 i2
   ·obtain rfl:nu=1:=by omega
    exact .try1 fn lp t a b (by simpa using g3) s1 i1 s2 i2
 ·-- 30
  simp[fields] at hf
  obtain⟨rfl,rfl⟩:=hf
  have hr2:rights [115] 30 fn lp 0 l=true:=by simpa [form,plain,show bare [115,42]=[115] from by decide] using hr
  rw[rights_all 115 (by decide) 30 (by decide)] at hr2
  exact .block fn lp l (fun x hx=>(sort_s x).1 (hr2 x hx).1) fun x hx=>ih x hx _ _ (hr2 x hx).2
 ·-- 31
  have hc2:count [101] l.length=true:=by simpa [form,plain] using hc
  obtain⟨a,rfl⟩:=len1 (f:=[101]) (by decide) (by decide) hc2
  simp[fields] at hf
  obtain⟨rfl,rfl⟩:=hf
  have hr2:rights [101] 31 fn lp 0 [a]=true:=by simpa [form,plain,show bare [101]=[101] from by decide] using hr
  simp[rights_cons,rights_nil,sort_e] at hr2
  obtain⟨s1,r1⟩:=hr2
  have i1:=ih a (by simp) _ _ r1
  exact .expr fn lp a s1 i1
set_option maxHeartbeats 2000000 in
theorem of_rt {n:Node} {fn lp:Bool} (h:Rt fn lp n):right n fn lp=true:=by
 induction h
 case num fn lp nu h1 h2=>
  rw[right_eq]
  simp[form,plain,fields,count,show star []=false from by decide,show bare []=[] from by decide,rights_cons,rights_nil,sort_e,sort_t,sort_b,sort_l,sort_d,sort_i,h1,h2]
 case str fn lp t=>
  rw[right_eq]
  simp[form,plain,fields,count,show star []=false from by decide,show bare []=[] from by decide,rights_cons,rights_nil,sort_e,sort_t,sort_b,sort_l,sort_d,sort_i]
 case bool fn lp nu h1=>
  rw[right_eq]
  simp[form,plain,fields,count,show star []=false from by decide,show bare []=[] from by decide,rights_cons,rights_nil,sort_e,sort_t,sort_b,sort_l,sort_d,sort_i,h1]
 case null fn lp=>
  rw[right_eq]
  simp[form,plain,fields,count,show star []=false from by decide,show bare []=[] from by decide,rights_cons,rights_nil,sort_e,sort_t,sort_b,sort_l,sort_d,sort_i]
 case var fn lp t h1=>
  rw[right_eq]
  simp[form,plain,fields,count,show star []=false from by decide,show bare []=[] from by decide,rights_cons,rights_nil,sort_e,sort_t,sort_b,sort_l,sort_d,sort_i,h1]
 case list fn lp l h1 h2 ih=>
  rw[right_eq]
  have hr2:rights [101] 6 fn lp 0 l=true:=(rights_all 101 (by decide) 6 (by decide) fn lp l 0).2 fun x hx=>⟨(sort_e x).2 (h1 x hx),ih x hx⟩
  simp[form,plain,fields,count,show bare [101,42]=[101] from by decide,show star [101,42]=true from by decide,hr2]
 case recd fn lp l h1 h2 ih=>
  rw[right_eq]
  have hr2:rights [112] 7 fn lp 0 l=true:=(rights_all 112 (by decide) 7 (by decide) fn lp l 0).2 fun x hx=>⟨(sort_p x).2 (h1 x hx),ih x hx⟩
  simp[form,plain,fields,count,show bare [112,42]=[112] from by decide,show star [112,42]=true from by decide,hr2]
 case pair fn lp t a h1 h2 h3 ih=>
  rw[right_eq]
  simp[form,plain,fields,count,show star [101]=false from by decide,show bare [101]=[101] from by decide,rights_cons,rights_nil,sort_e,sort_t,sort_b,sort_l,sort_d,sort_i,h1,h2,ih]
 case func fn lp t ps b h1 h2 h3 h4 ih=>
  rw[right_eq]
  obtain⟨hb9,hs9⟩:=bare9 ps.length
  have hr2:rights (List.replicate ps.length 113++[103]) 9 fn lp 0 (ps.map (fun p=>Node.mk 10 0 p [])++[b])=true:=(rights_fn ps.length fn lp b _ 0 (by simp)).2 ⟨fun x hx=>by
    obtain⟨p,hp,rfl⟩:=List.mem_map.1 hx
    refine⟨(sort_q _).2 rfl,?_⟩
    rw[right_eq]
    simp[form,plain,fields,count,show star []=false from by decide,show bare []=[] from by decide,rights_nil,h2 p hp],(sort_g b).2 h3,ih⟩
  have hf:fields 9 0 t=true:=by rcases h1 with rfl | h1<;>simp[fields, *]
  simp[form,plain,hf,count,hb9,hs9,hr2]
 case param fn lp t h1=>
  rw[right_eq]
  simp[form,plain,fields,count,show star []=false from by decide,show bare []=[] from by decide,rights_cons,rights_nil,sort_e,sort_t,sort_b,sort_l,sort_d,sort_i,h1]
 case call fn lp a l h1 h2 h3 h4 ih1 ih2=>
  rw[right_eq]
  have hr2:rights [101,101] 11 fn lp 0 (a :: l)=true:=by
   rw[rights_cons,Bool.and_eq_true,Bool.and_eq_true,rights_tail 101 101 (by decide) 11 (by decide) fn lp l 1 (by omega)]
   simp[sort_e,h1,ih1]
   exact fun x hx=>⟨h3 x hx,ih2 x hx⟩
  simp[form,plain,fields,count,show bare [101,101,42]=[101,101] from by decide,show star [101,101,42]=true from by decide,hr2]
 case index fn lp a b h1 h2 h3 h4 ih1 ih2=>
  rw[right_eq]
  simp[form,plain,fields,count,show star [101,101]=false from by decide,show bare [101,101]=[101,101] from by decide,rights_cons,rights_nil,sort_e,sort_t,sort_b,sort_l,sort_d,sort_i,h1,h3,ih1,ih2]
 case dot fn lp t a h1 h2 h3 ih=>
  rw[right_eq]
  simp[form,plain,fields,count,show star [101]=false from by decide,show bare [101]=[101] from by decide,rights_cons,rights_nil,sort_e,sort_t,sort_b,sort_l,sort_d,sort_i,h1,h2,ih]
 case unary fn lp t a h1 h2 h3 ih=>
  have h5:=one_unary.2 h1
  rw[right_eq]
  simp[form,plain,fields,count,show star [101]=false from by decide,show bare [101]=[101] from by decide,rights_cons,rights_nil,sort_e,sort_t,sort_b,sort_l,sort_d,sort_i,h5,h2,ih]
 case binary fn lp t a b h1 h2 h3 h4 h5 ih1 ih2=>
  have h7:=one_binary.2 h1
  rw[right_eq]
  simp[form,plain,fields,count,show star [101,101]=false from by decide,show bare [101,101]=[101,101] from by decide,rights_cons,rights_nil,sort_e,sort_t,sort_b,sort_l,sort_d,sort_i,h7,h2,h4,ih1,ih2]
 case and_ fn lp a b h1 h2 h3 h4 ih1 ih2=>
  rw[right_eq]
  simp[form,plain,fields,count,show star [101,101]=false from by decide,show bare [101,101]=[101,101] from by decide,rights_cons,rights_nil,sort_e,sort_t,sort_b,sort_l,sort_d,sort_i,h1,h3,ih1,ih2]
 case or_ fn lp a b h1 h2 h3 h4 ih1 ih2=>
  rw[right_eq]
  simp[form,plain,fields,count,show star [101,101]=false from by decide,show bare [101,101]=[101,101] from by decide,rights_cons,rights_nil,sort_e,sort_t,sort_b,sort_l,sort_d,sort_i,h1,h3,ih1,ih2]
 case cond fn lp a b c h1 h2 h3 h4 h5 h6 ih1 ih2 ih3=>
  rw[right_eq]
  simp[form,plain,fields,count,show star [101,101,101]=false from by decide,show bare [101,101,101]=[101,101,101] from by decide,rights_cons,rights_nil,sort_e,sort_t,sort_b,sort_l,sort_d,sort_i,h1,h3,h5,ih1,ih2,ih3]
 case assign fn lp a b h1 h2 h3 h4 ih1 ih2=>
  rw[right_eq]
  simp[form,plain,fields,count,show star [116,101]=false from by decide,show bare [116,101]=[116,101] from by decide,rights_cons,rights_nil,sort_e,sort_t,sort_b,sort_l,sort_d,sort_i,h1,h3,ih1,ih2]
 case let_ fn lp t a h1 h2 h3 ih=>
  rw[right_eq]
  simp[form,plain,fields,count,show star [101]=false from by decide,show bare [101]=[101] from by decide,rights_cons,rights_nil,sort_e,sort_t,sort_b,sort_l,sort_d,sort_i,h1,h2,ih]
 case def_ fn lp f h1 h2 h3 ih=>
  rw[right_eq]
  simp[form,plain,fields,count,show star [100]=false from by decide,show bare [100]=[100] from by decide,rights_cons,rights_nil,sort_e,sort_t,sort_b,sort_l,sort_d,sort_i,h1,h2,ih]
 case if2 fn lp c b h1 h2 h3 h4 ih1 ih2=>
  rw[right_eq]
  simp[form,plain,fields,count,show star [101,98]=false from by decide,show bare [101,98]=[101,98] from by decide,rights_cons,rights_nil,sort_e,sort_t,sort_b,sort_l,sort_d,sort_i,h1,h3,ih1,ih2]
 case if3 fn lp c b e h1 h2 h3 h4 h5 h6 ih1 ih2 ih3=>
  rw[right_eq]
  simp[form,plain,fields,count,show star [101,98,105]=false from by decide,show bare [101,98,105]=[101,98,105] from by decide,rights_cons,rights_nil,sort_e,sort_t,sort_b,sort_l,sort_d,sort_i,h1,h3,h5,ih1,ih2,ih3]
 case while_ fn lp c b h1 h2 h3 h4 ih1 ih2=>
  rw[right_eq]
  simp[form,plain,fields,count,show star [101,108]=false from by decide,show bare [101,108]=[101,108] from by decide,rights_cons,rights_nil,sort_e,sort_t,sort_b,sort_l,sort_d,sort_i,h1,h3,ih1,ih2]
 case for_ fn lp t c b h0 h1 h2 h3 h4 ih1 ih2=>
  rw[right_eq]
  simp[form,plain,fields,count,show star [101,108]=false from by decide,show bare [101,108]=[101,108] from by decide,rights_cons,rights_nil,sort_e,sort_t,sort_b,sort_l,sort_d,sort_i,h0,h1,h3,ih1,ih2]
 case ret0 lp=>
  rw[right_eq]
  simp[form,plain,fields,count,show star []=false from by decide,show bare []=[] from by decide,rights_cons,rights_nil,sort_e,sort_t,sort_b,sort_l,sort_d,sort_i]
 case ret1 lp a h1 h2 ih=>
  rw[right_eq]
  simp[form,plain,fields,count,show star [101]=false from by decide,show bare [101]=[101] from by decide,rights_cons,rights_nil,sort_e,sort_t,sort_b,sort_l,sort_d,sort_i,h1,ih]
 case brk fn=>
  rw[right_eq]
  simp[form,plain,fields,count,show star []=false from by decide,show bare []=[] from by decide,rights_cons,rights_nil,sort_e,sort_t,sort_b,sort_l,sort_d,sort_i]
 case cont fn=>
  rw[right_eq]
  simp[form,plain,fields,count,show star []=false from by decide,show bare []=[] from by decide,rights_cons,rights_nil,sort_e,sort_t,sort_b,sort_l,sort_d,sort_i]
 case throw fn lp a h1 h2 ih=>
  rw[right_eq]
  simp[form,plain,fields,count,show star [101]=false from by decide,show bare [101]=[101] from by decide,rights_cons,rights_nil,sort_e,sort_t,sort_b,sort_l,sort_d,sort_i,h1,ih]
 case try1 fn lp t b c h0 h1 h2 h3 h4 ih1 ih2=>
  rw[right_eq]
  simp[form,plain,fields,count,show star [98,98]=false from by decide,show bare [98,98]=[98,98] from by decide,rights_cons,rights_nil,sort_e,sort_t,sort_b,sort_l,sort_d,sort_i,h0,h1,h3,ih1,ih2]
 case try2 fn lp b d h1 h2 h3 h4 ih1 ih2=>
  rw[right_eq]
  simp[form,plain,fields,count,show star [98,98]=false from by decide,show bare [98,98]=[98,98] from by decide,rights_cons,rights_nil,sort_e,sort_t,sort_b,sort_l,sort_d,sort_i,h1,h3,ih1,ih2]
 case try3 fn lp t b c d h0 h1 h2 h3 h4 h5 h6 ih1 ih2 ih3=>
  rw[right_eq]
  simp[form,plain,fields,count,show star [98,98,98]=false from by decide,show bare [98,98,98]=[98,98,98] from by decide,rights_cons,rights_nil,sort_e,sort_t,sort_b,sort_l,sort_d,sort_i,h0,h1,h3,h5,ih1,ih2,ih3]
 case block fn lp l h1 h2 ih=>
  rw[right_eq]
  have hr2:rights [115] 30 fn lp 0 l=true:=(rights_all 115 (by decide) 30 (by decide) fn lp l 0).2 fun x hx=>⟨(sort_s x).2 (h1 x hx),ih x hx⟩
  simp[form,plain,fields,count,show bare [115,42]=[115] from by decide,show star [115,42]=true from by decide,hr2]
 case expr fn lp a h1 h2 ih=>
  rw[right_eq]
  simp[form,plain,fields,count,show star [101]=false from by decide,show bare [101]=[101] from by decide,rights_cons,rights_nil,sort_e,sort_t,sort_b,sort_l,sort_d,sort_i,h1,ih]
end Wri
