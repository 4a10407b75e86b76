/-
  Texts that the law leans on: ScE, ScF, ParE, ParK, LexW, PlA, PlQ, Few, ScH, Mem, Row, Res, Gen, PmA, MapF. Conditions: as each says.
-/
import Derived.Test.YtflmjbmdmoifhaaGreatDoorUAb
import Derived.Test.YtflmjbmdmoifhaaGreatDoorUAa
import Derived.Test.YtflmjbmdmoifhaaGreatDoorRows
import Derived.WalkKit
import Derived.Below
import Derived.Deep.QuietTactic
import Derived.Laws.Tables
import Derived.Laws.Rows
import Derived.Laws.ResultCell
import Derived.Laws.CopyOwn
import Derived.Deep.AppendLies
import Derived.Deep.MidRow
import Derived.Lib.SliceRun
import Derived.Lib.Hide
import Derived.Deep.RegionLaw
import Derived.Deep.RegionHeld3
import Derived.WalkSpells
import Derived.BigQuiet
import Derived.Handy
import Derived.Deep.LoopGhost
import Derived.Deep.Cut
import Derived.WalkLawsBesides
import Derived.Shelf.Abstract
import Derived.Maps.OwnSet
import Derived.Maps.Views
import Derived.StringKeys
set_option linter.unusedSimpArgs false
set_option linter.unusedVariables false
namespace Scopy
open Pars (Node Bs)
open Wri (Rt right rights rt_of of_rt sort)
section
variable {σ : Type}
structure Fine (H:Hd σ) (I:σ→Prop):Prop where
 push:∀d s,I s→I (H.push d s)
 pop:∀s,I s→I (H.pop s)
 decl:∀k t s,Wri.name t=true→I s→I (H.decl k t s).1∧Wri.name (H.decl k t s).2=true
 use:∀t s,Wri.name t=true→I s→I (H.use t s).1∧Wri.name (H.use t s).2=true
theorem mapA_all {f:Node→σ→σ×Node} {I:σ→Prop} {Q:Node→Prop} (h:∀a s,Q a→I s→I (f a s).1∧Q (f a s).2):∀(l:List Node) (s:σ),(∀a∈l,Q a)→I s→I (mapA f l s).1∧∀a∈(mapA f l s).2,Q a
 | [],s,hq,i=>⟨i,fun a ha=>by cases ha⟩
 | a :: l,s,hq,i=>by
  obtain⟨h1,h2⟩:=h a s (hq a (by simp)) i
  obtain⟨h3,h4⟩:=mapA_all h l (f a s).1 (fun b hb=>hq b (by simp[hb])) h1
  refine⟨h3,fun b hb=> ?_⟩
  simp only[mapA,List.mem_cons] at hb
  rcases hb with rfl | hb
  ·exact h2
  ·exact h4 b hb
theorem name_ne {t:Bs} (h:Wri.name t=true):t≠[]:=by
 rintro rfl
 exact absurd h (by decide+kernel)
theorem told_right {H:Hd σ} {I:σ→Prop} (hb:Fine H I) (fn lp:Bool) (a:Node) (s:σ) (h:(20≤a.kind∧a.kind≤31)∧right a fn lp=true) (i:I s):I (told H a s).1∧((20≤(told H a s).2.kind∧(told H a s).2.kind≤31)∧right (told H a s).2 fn lp=true):=by
 obtain⟨k,nu,t,l⟩:=a
 by_cases h1:k=20
 ·subst h1
  have hr:=rt_of _ _ _ h.2
  cases hr with
  | let_ _ _ _ b hn hb1 hb2=>
   obtain⟨d1,d2⟩:=hb.decl 20 t s hn i
   have e:told H (.mk 20 0 t [b]) s=((H.decl 20 t s).1,.mk 20 0 (H.decl 20 t s).2 [b]):=rfl
   rw[e]
   exact⟨d1,⟨show (20:Int)≤20 by omega,show (20:Int)≤31 by omega⟩,of_rt (.let_ fn lp _ b d2 hb1 hb2)⟩
 ·by_cases h2:k=21
  ·subst h2
   have hr:=rt_of _ _ _ h.2
   cases hr with
   | def_ _ _ f hk ht hf=>
    obtain⟨k2,nu2,t2,l2⟩:=f
    obtain rfl:k2=9:=hk
    have ht:t2≠[]:=ht
    cases hf with
    | func _ _ _ ps b hn hps hbk hbr=>
     obtain⟨d1,d2⟩:=hb.decl 21 t2 s (hn.resolve_left ht) i
     have e:told H (.mk 21 0 [] [.mk 9 0 t2 (ps.map (fun p=>Node.mk 10 0 p [])++[b])]) s=((H.decl 21 t2 s).1,.mk 21 0 [] [.mk 9 0 (H.decl 21 t2 s).2 (ps.map (fun p=>Node.mk 10 0 p [])++[b])]):=rfl
     rw[e]
     exact⟨d1,⟨show (20:Int)≤21 by omega,show (21:Int)≤31 by omega⟩,of_rt (.def_ fn lp _ rfl (name_ne d2) (.func fn lp _ ps b (.inr d2) hps hbk hbr))⟩
  ·have e:told H (.mk k nu t l) s=(s,.mk k nu t l):=by simp[told,hd,h1,h2]
   rw[e]
   exact⟨i,h⟩
end
end Scopy
namespace Scopy
open Pars (Node Bs)
instance:DecidableEq Decl:=fun a b=>decidable_of_iff (a.kind=b.kind∧a.name=b.name∧a.deep=b.deep∧a.caught=b.caught) (by cases a;cases b;simp)
def start:St:=⟨[⟨empty,0⟩],[],[],0⟩
def bad (e:Nat):St:=⟨[],[],[],e⟩
def zero:Node:= .mk 0 0 [] []
def run (known:List Bs) (dk:Int) (nm:Bs) (n:Node):St×Node:=tr (hs known dk nm) (Pars.deep n) n start
def look (known:List Bs) (dk:Int) (nm:Bs) (n:Node):St×Node:=
 if Wri.check n≠0 then (bad (Wri.check n),zero) else if 100<known.length then (bad 2,zero) else run known dk nm n
def names (n:Node) (known:List Bs):St:=(look known (-1) [] n).1
def rename (n:Node) (dk:Int) (nm:Bs) (known:List Bs):Node×Nat:=
 if (names n known).e≠0 then (zero,(names n known).e)
 else if ¬(0≤dk∧dk<((names n known).decls.length:Int)∧Wri.name nm=true) then (zero,1)
 else if (names (look known dk nm n).2 known).e=0∧(names (look known dk nm n).2 known).uses.map (·.2)=(names n known).uses.map (·.2)∧(names (look known dk nm n).2 known).decls=setName (names n known).decls dk.toNat nm then ((look known dk nm n).2,0)
 else (zero,6)
theorem names_ok {n:Node} {known:List Bs} (h:(names n known).e=0):Wri.check n=0∧known.length≤100∧∀dk nm,look known dk nm n=run known dk nm n:=by
 unfold names look at h
 by_cases h1:Wri.check n≠0
 ·rw[if_pos h1] at h;exact absurd h h1
 ·rw[if_neg h1] at h
  by_cases h2:100<known.length
  ·rw[if_pos h2] at h;simp[bad] at h
  ·refine⟨Decidable.not_not.1 h1,by omega,fun dk nm=> ?_⟩
   unfold look
   rw[if_neg h1,if_neg h2]
theorem start_tells (known:List Bs):Tells known start:=by
 refine⟨fun r hr t k h=> ?_,fun u hu=>by cases hu⟩
 have hr:r∈[(⟨empty,0⟩:Room)]:=hr
 rcases List.mem_singleton.1 hr with rfl
 cases h
theorem names_tells {n:Node} {known:List Bs} (h:(names n known).e=0):Tells known (names n known):=by
 obtain⟨_,_,h3⟩:=names_ok h
 unfold names
 rw[h3]
 exact tr_inv (tells known (-1) []) _ n start trivial (start_tells known)
theorem uses_law {n:Node} {known:List Bs} (h:(names n known).e=0) (u:Bs×Int) (hu:u∈(names n known).uses): -1≤u.2∧u.2<((names n known).decls.length:Int)∧(u.2= -1→u.1∈known)∧∀d,0≤u.2→(names n known).decls[u.2.toNat]? =some d→d.name=u.1:=by
 rcases (names_tells h).use u hu with⟨h1,h2⟩ | ⟨k,d,h1,h2,h3⟩
 ·exact⟨by omega,by omega,fun _=>h2,fun d hd=>by omega⟩
 ·have:=(List.getElem?_eq_some_iff.1 h2).1
  refine⟨by omega,by omega,fun e=>by omega,fun d2 _ hd=> ?_⟩
  rw[h1] at hd
  have hd:(names n known).decls[k]? =some d2:=by simpa using hd
  rw[h2] at hd
  injection hd with hd
  subst hd
  exact h3
theorem more_law {n:Node} {known:List Bs} (h:(names n known).e=0) (hk:known.length<100) (m:Bs):names n (known++[m])=names n known:=by
 obtain⟨h1,h2,h3⟩:=names_ok h
 have e1:names n known=(run known (-1) [] n).1:=by unfold names;rw[h3]
 have e2:names n (known++[m])=(run (known++[m]) (-1) [] n).1:=by
  unfold names look
  rw[if_neg (by omega),if_neg (by simp;omega)]
 have he:(run known (-1) [] n).1.e=0:=by rw[←e1];exact h
 have hs:(run known (-1) [] n).2=n:=by
  refine tr_same (J:=fun _=>True) (I:=fun _=>True) (P:=fun _=>True) ⟨⟨⟨fun _ _ _=>trivial,fun _ _=>trivial,fun _ _ _ _=>trivial,fun _ _ _=>trivial⟩,fun _ _ _ _=>trivial,fun _=>trivial,fun _ _ _=>trivial,fun _ _ _ _ _ _=>trivial,fun _ _ _ _=>trivial,fun _ _ _ _=>trivial⟩,fun k t s _ _=> ?_,fun t s _ _=> ?_⟩ _ n start trivial trivial
  ·rcases decl_cases (known:=known) (dk:= -1) (nm:=[]) k t s with⟨_,e⟩ | ⟨_,_,e⟩ | ⟨_,_,e⟩<;>rw[e]
   show (if (s.decls.length:Int)= -1 then [] else t)=t
   rw[if_neg (by omega)]
  ·rcases use_cases (known:=known) (dk:= -1) (nm:=[]) t s with⟨_,e⟩ | ⟨_,k,_,e⟩ | ⟨_,_,_,e⟩ | ⟨_,_,_,e⟩<;>rw[e]
   show (if (k:Int)= -1 then [] else t)=t
   rw[if_neg (by omega)]
 have hc:=tr_comp (Scopy.hs known (-1) []) (Scopy.hs (known++[m]) (-1) []) (Pars.deep n) n start start
 have hi:=tr_inv (more known [m]) (Pars.deep n) n (start,start) (by rw[hc];exact he) rfl
 rw[hc] at hi
 have hi:(tr (Scopy.hs (known++[m]) (-1) []) (Pars.deep n) (run known (-1) [] n).2 start).1=(run known (-1) [] n).1:=hi
 rw[hs] at hi
 rw[e1,e2, ←hi]
 rfl
theorem check_ok {n:Node} (h:Wri.check n=0):n.kind=30∧Wri.right n false false=true∧Pars.deep n≤40:=by
 unfold Wri.check at h
 split at h
 ·cases h
 ·rename_i h1
  split at h
  ·cases h
  ·simp at h1
   exact⟨h1.1,h1.2,by omega⟩
end Scopy
namespace Pars
open Lexy (Tk)
theorem is_some {s:Bs} {l r:List Tk} (h:is s l=some r):(∃t,l=t :: r∧(t.kind=4∨t.kind=5)∧t.text=s)∧∀m,is s (l++m)=some (r++m):=by
 cases l with
 | nil=>simp[is] at h
 | cons t l=>
  simp only[is] at h
  by_cases hc:(t.kind=4∨t.kind=5)∧t.text=s
  ·rw[if_pos hc] at h
   injection h with h
   subst h
   exact⟨⟨t,rfl,hc⟩,fun m=>by simp only[List.cons_append,is];rw[if_pos hc]⟩
  ·rw[if_neg hc] at h;cases h
theorem is_none {s:Bs} {l:List Tk} (h:is s l=none) (hl:l≠[]) (m:List Tk):is s (l++m)=none:=by
 cases l with
 | nil=>exact absurd rfl hl
 | cons t l=>
  simp only[is] at h
  by_cases hc:(t.kind=4∨t.kind=5)∧t.text=s
  ·rw[if_pos hc] at h;cases h
  ·simp only[List.cons_append,is]
   rw[if_neg hc]
theorem any_some {ss:List Bs} {s:Bs} {l r:List Tk} (h:anyOf ss l=some (s,r)):(∃t,l=t :: r)∧∀m,anyOf ss (l++m)=some (s,r++m):=by
 induction ss with
 | nil=>simp[anyOf] at h
 | cons a ss ih=>
  unfold anyOf at h
  cases hi:is a l with
  | none=>
   rw[hi] at h
   obtain⟨h1,h2⟩:=ih h
   refine⟨h1,fun m=> ?_⟩
   unfold anyOf
   rw[is_none hi (by obtain⟨t,rfl⟩:=h1;simp) m]
   exact h2 m
  | some r'=>
   rw[hi] at h
   injection h with h
   injection h with h1 h2
   subst h1 h2
   obtain⟨⟨t,h3,_⟩,h4⟩:=is_some hi
   exact⟨⟨t,h3⟩,fun m=>by unfold anyOf;rw[h4 m]⟩
end Pars
namespace Pars
open Lexy (Tk)
def Short (s:Bool) (p:List Tk→R):Prop:=∀l x r,p l=some (x,r)→r.length≤l.length∧(s=true→r.length<l.length)
theorem Short.weak {s:Bool} {p:List Tk→R} (h:Short s p):Short false p:=fun l x r e=>⟨(h l x r e).1,fun h=>by cases h⟩
theorem short_none (s:Bool):Short s (fun _=>none):=fun l x r h=>by cases h
theorem short_pure (x:Node):Short false (fun l=>some (x,l)):=fun l y r h=>by
 injection h with h;injection h with h1 h2;subst h2;exact⟨Nat.le_refl _,fun h=>by cases h⟩
theorem short_alt {s:Bool} {w:Bs} {f g:List Tk→R} (hf:Short false f) (hg:Short s g):Short s (fun l=>alt w l f (g l)):=by
 intro l x r h
 cases hi:is w l with
 | none=>simp only[alt,hi] at h;exact hg l x r h
 | some l'=>
  simp only[alt,hi] at h
  obtain⟨⟨t,ht,_⟩,_⟩:=is_some hi
  have:=(hf l' x r h).1
  subst ht
  exact⟨by simp;omega,fun _=>by simp;omega⟩
theorem short_must {s:Bool} {w:Bs} {f:List Tk→R} (hf:Short false f):Short s (fun l=>must w l f):=short_alt hf (short_none _)
theorem short_tok {s:Bool} {k:Nat} {f:Tk→List Tk→R} {g:List Tk→R} (hf:∀t,Short false (f t)) (hg:Short s g):Short s (fun l=>tok k l f (g l)):=by
 intro l x r h
 cases l with
 | nil=>exact hg [] x r h
 | cons t l=>
  simp only[tok] at h
  by_cases hk:t.kind=k
  ·rw[if_pos hk] at h
   have:=(hf t l x r h).1
   exact⟨by simp;omega,fun _=>by simp;omega⟩
  ·rw[if_neg hk] at h;exact hg _ x r h
theorem short_named {s:Bool} {f:Bs→List Tk→R} (hf:∀n,Short false (f n)):Short s (fun l=>named l f):=short_tok (fun t=>hf t.text) (short_none _)
theorem short_and {s:Bool} {p:List Tk→R} {q:Node→List Tk→R} (hp:Short s p) (hq:∀x,Short false (q x)):Short s (fun l=>andThen (p l) q):=by
 intro l x r h
 cases hi:p l with
 | none=>simp only[andThen,hi] at h;cases h
 | some y=>
  obtain⟨y,l1⟩:=y
  simp only[andThen,hi] at h
  have h1:=hp l y l1 hi
  have h2:=(hq y l1 x r h).1
  exact⟨by omega,fun hs=>by have:=h1.2 hs;omega⟩
theorem short_signs {s:Bool} {ss:List Bs} {f:Bs→List Tk→R} {g:List Tk→R} (hf:∀n,Short false (f n)) (hg:Short s g):Short s (fun l=>signs ss l f (g l)):=by
 intro l x r h
 cases hi:anyOf ss l with
 | none=>simp only[signs,hi] at h;exact hg l x r h
 | some y=>
  obtain⟨w,l'⟩:=y
  simp only[signs,hi] at h
  obtain⟨⟨t,ht⟩,_⟩:=any_some hi
  have:=(hf w l' x r h).1
  subst ht
  exact⟨by simp;omega,fun _=>by simp;omega⟩
theorem short_peek {s:Bool} {w:Bs} {a b:List Tk→R} (ha:Short s a) (hb:Short s b):Short s (fun l=>peek w l (a l) (b l)):=by
 intro l x r h
 cases l with
 | nil=>exact hb [] x r h
 | cons t l=>
  simp only[peek] at h
  by_cases hk:t.kind=4∧t.text=w
  ·rw[if_pos hk] at h;exact ha _ x r h
  ·rw[if_neg hk] at h;exact hb _ x r h
theorem short_sep {more:Bool} {f:List Tk→R} (hf:Short false f):Short false (fun l=>sep more l f):=by
 cases more
 ·exact hf
 ·exact (short_must (s:=false) hf)
theorem short_ite {s:Bool} {c:Prop} [Decidable c] {p q:List Tk→R} (hp:Short s p) (hq:Short s q):Short s (fun l=>if c then p l else q l):=by
 by_cases h:c
 ·simpa [h] using hp
 ·simpa [h] using hq
def passes:Nt→Bool
 | .binGo _ _=>false
 | .post _=>false
 | .some _ _ _ _=>false
 | _=>true
theorem run_short:∀n nt fn lp,Short (passes nt) (fun l=>run n nt fn lp l)
 | 0,nt,fn,lp=>by simp only[run];exact short_none _
 | n+1,nt,fn,lp=>by
  have ih:∀nt fn lp,passes nt=true→Short true (fun l=>run n nt fn lp l):=fun nt fn lp h=>by have:=run_short n nt fn lp;rw[h] at this;exact this
  have iw:∀nt fn lp,Short false (fun l=>run n nt fn lp l):=fun nt fn lp=>(run_short n nt fn lp).weak
  cases nt<;>simp only[run,passes]<;>
  repeat' first
   | exact ih _ _ _ rfl
   | exact iw _ _ _
   | exact short_none _
   | exact short_pure _
   | (refine short_must ?_)
   | (refine short_named fun _=> ?_)
   | (refine short_alt ?_ ?_)
   | (refine short_and ?_ fun _=> ?_)
   | (refine short_tok (fun _=> ?_) ?_)
   | (refine short_signs (fun _=> ?_) ?_)
   | (refine short_peek ?_ ?_)
   | (refine short_sep ?_)
   | (refine short_ite ?_ ?_)
theorem run_passes {n:Nat} {nt:Nt} {fn lp:Bool} {l r:List Tk} {x:Node} (h:run n nt fn lp l=some (x,r)) (hp:passes nt=true):r.length<l.length:=(run_short n nt fn lp l x r h).2 hp
theorem must_some {s:Bs} {l r:List Tk} {f:List Tk→R} (h:is s l=some r):must s l f=f r:=by simp only[must,alt,h]
theorem must_no {s:Bs} {l:List Tk} {f:List Tk→R} (h:is s l=none):must s l f=none:=by simp only[must,alt,h]
theorem alt_some {s:Bs} {l r:List Tk} {f:List Tk→R} {g:R} (h:is s l=some r):alt s l f g=f r:=by simp only[alt,h]
theorem alt_no {s:Bs} {l:List Tk} {f:List Tk→R} {g:R} (h:is s l=none):alt s l f g=g:=by simp only[alt,h]
theorem and_some {p:R} {x:Node} {l:List Tk} {f:Node→List Tk→R} (h:p=some (x,l)):andThen p f=f x l:=by simp only[andThen,h]
theorem and_no {p:R} {f:Node→List Tk→R} (h:p=none):andThen p f=none:=by simp only[andThen,h]
end Pars
namespace Lexy
def shift (q:Nat) (x:Tok):Tok:=⟨x.toTk,x.lo+q,x.hi+q⟩
theorem lex_shift {p:Nat} {l:Bs} {ts:List Tok} (h:Lex p l ts) (q:Nat):Lex (p+q) l (ts.map (shift q)):=by
 induction h with
 | done p l hd=>exact .done _ _ hd
 | more p l t n ts hne hn _ ih=>
  have e1:p+skp false l+q=p+q+skp false l:=by omega
  have e2:p+skp false l+n+q=p+q+skp false l+n:=by omega
  simp only[List.map_cons,shift]
  rw[e1,e2]
  rw[e2] at ih
  exact .more _ _ t n _ hne hn ih
end Lexy
namespace Lexy
def LexT (l:Bs) (ts:List Tk):Prop:=∃full,Lex 0 l full∧full.map (·.toTk)=ts
theorem map_shift (q:Nat) (l:List Tok):(l.map (shift q)).map (·.toTk)=l.map (·.toTk):=by
 rw[List.map_map];rfl
theorem LexT.at_ {l:Bs} {ts:List Tk} (h:LexT l ts) (p:Nat):∃full,Lex p l full∧full.map (·.toTk)=ts:=by
 obtain⟨full,h1,h2⟩:=h
 exact⟨_,by have:=lex_shift h1 p;rwa [Nat.zero_add] at this,by rw[map_shift];exact h2⟩
theorem lexT_tok {a z:Bs} {t:Tk} {zs:List Tk} (hs:skp false (a++z)=0) (ha:a≠[]) (hn:next (a++z)= .ok (t,a.length)) (h:LexT z zs):LexT (a++z) (t :: zs):=by
 obtain⟨full,h1,h2⟩:=h.at_ a.length
 have e:(a++z).drop (skp false (a++z))=a++z:=by rw[hs];rfl
 refine⟨⟨t,0+skp false (a++z),0+skp false (a++z)+a.length⟩ :: full,.more 0 (a++z) t a.length full ?_ ?_ ?_,?_⟩
 ·rw[e];intro h;exact ha (List.append_eq_nil_iff.1 h).1
 ·rw[e];exact hn
 ·rw[e,hs,List.drop_left' rfl];simpa using h1
 ·simp[h2]
def W (P:UInt8→Bool) (b:Bs) (ts:List Tk):Prop:=∀z zs,(∀c,z.head? =some c→P c=true)→LexT z zs→LexT (b++z) (ts++zs)
def all:UInt8→Bool:=fun _=>true
def noN:UInt8→Bool:=fun c=> !isNameB c
theorem W.weak {P Q:UInt8→Bool} {b:Bs} {ts:List Tk} (h:W P b ts) (hq:∀c,Q c=true→P c=true):W Q b ts:=fun z zs hz=>h z zs fun c hc=>hq c (hz c hc)
theorem W.n {b:Bs} {ts:List Tk} (h:W all b ts):W noN b ts:=h.weak fun _ _=>rfl
theorem W.app {P Q:UInt8→Bool} {b c:Bs} {ts us:List Tk} (h:W P b ts) (h2:W Q c us) (hp:∀z:Bs,(∀d,z.head? =some d→Q d=true)→∀d,(c++z).head? =some d→P d=true):W Q (b++c) (ts++us):=by
 intro z zs hz hl
 rw[List.append_assoc,List.append_assoc]
 exact h _ _ (hp z hz) (h2 z zs hz hl)
theorem W.after {Q:UInt8→Bool} {b c:Bs} {ts us:List Tk} (h:W all b ts) (h2:W Q c us):W Q (b++c) (ts++us):=h.app h2 fun _ _ _ _=>rfl
theorem W.ahead {P Q:UInt8→Bool} {b c:Bs} {d:UInt8} {ts us:List Tk} (h:W P b ts) (hd:P d=true) (h2:W Q (d :: c) us):W Q (b++(d :: c)) (ts++us):=h.app h2 fun z _ e he=>by simp at he;subst he;exact hd
def sg (s:Bs):Tk:=⟨4,s,0⟩
def kw (s:Bs):Tk:=⟨5,s,0⟩
def nm (s:Bs):Tk:=⟨1,s,0⟩
theorem w_sign1 (c:UInt8) (hc:c∈[40,41,91,93,123,125,44,59,58,46,63,43,45,42,37]):W all [c] [sg [c]]:=by
 intro z zs _ h
 simp only[List.mem_cons,List.not_mem_nil,or_false] at hc
 refine lexT_tok (a:=[c]) ?_ (by simp) ?_ h
 ·rcases hc with rfl | rfl | rfl | rfl | rfl | rfl | rfl | rfl | rfl | rfl | rfl | rfl | rfl | rfl | rfl<;>simp[skp,isBlank]
 ·have e:∀d r,z=d :: r→[c,d]∉signs:=by
   intro d r _
   rcases hc with rfl | rfl | rfl | rfl | rfl | rfl | rfl | rfl | rfl | rfl | rfl | rfl | rfl | rfl | rfl<;>simp[signs]
  have h1:[c]∈signs:=by
   rcases hc with rfl | rfl | rfl | rfl | rfl | rfl | rfl | rfl | rfl | rfl | rfl | rfl | rfl | rfl | rfl<;>decide
  have h2:isLetter c=false∧isDigit c=false∧(c==34)=false:=by
   rcases hc with rfl | rfl | rfl | rfl | rfl | rfl | rfl | rfl | rfl | rfl | rfl | rfl | rfl | rfl | rfl<;>decide
  have h3:sign (c :: z)= .ok (sg [c],1):=by
   unfold sign
   have hn:¬(2≤(c :: z).length∧(c :: z).take 2∈signs):=by
    rintro⟨a,b⟩
    cases z with
    | nil=>simp at a
    | cons d r=>exact e d r rfl (by simpa using b)
   rw[if_neg hn,if_pos ⟨by simp,by simpa using h1⟩]
   rfl
  simp only[List.cons_append,List.nil_append,next,h2.1,h2.2.1,h2.2.2,if_false,Bool.false_eq_true,h3,List.length_cons,List.length_nil]
theorem w_word (w:Bs) (c:UInt8) (r:Bs) (hw:w=c :: r) (hc:isLetter c=true) (ha:∀d∈w,isNameB d=true):W noN w [⟨if w∈kws then 5 else 1,w,0⟩]:=by
 intro z zs hz h
 have hlen:nameLen (w++z)=w.length:=by
  unfold nameLen
  rw[List.takeWhile_append_of_pos ha]
  cases z with
  | nil=>simp
  | cons d q=>
   have:=hz d rfl
   simp only[noN,Bool.not_eq_true'] at this
   simp[this]
 refine lexT_tok (a:=w) ?_ (by rw[hw];simp) ?_ h
 ·rw[hw]
  have h1:isBlank c=false:=by
   cases hb:isBlank c with
   | false=>rfl
   | true=>
    simp only[isBlank,Bool.or_eq_true,beq_iff_eq] at hb
    rcases hb with ((rfl | rfl) | rfl) | rfl<;>exact absurd hc (by decide)
  have h2:(c==47)=false:=by
   cases hb:(c==47) with
   | false=>rfl
   | true=>have:=eq_of_beq hb;subst this;exact absurd hc (by decide)
  simp[skp,h1,h2]
 ·rw[show next (w++z)= .ok (⟨if (w++z).take (nameLen (w++z))∈kws then 5 else 1,(w++z).take (nameLen (w++z)),0⟩,nameLen (w++z)) from by
   rw[hw];simp only[List.cons_append,next,hc,if_true]]
  rw[hlen,List.take_left' rfl]
structure IsName (w:Bs):Prop where
 head:∃c r,w=c :: r∧isLetter c=true
 all:∀d∈w,isNameB d=true
 no:w∉kws
theorem IsName.w {w:Bs} (h:IsName w):W noN w [nm w]:=by
 obtain⟨c,r,h1,h2⟩:=h.head
 have:=w_word w c r h1 h2 h.all
 rwa [if_neg h.no] at this
end Lexy
namespace Pars
open Lexy (Tk)
open Wri (wg wgs)
def wt:List Tk→Int
 | []=>0
 | t :: l=>1+t.text.length+wt l
theorem wgs_append:∀a b:List Node,wgs (a++b)=wgs a+wgs b
 | [],b=>by simp[wgs]
 | n :: a,b=>by simp only[List.cons_append,wgs,wgs_append a b];omega
theorem wgs_kids (n:Node):(wgs n.kids:Int)+1≤wg n:=by cases n;simp only[Node.kids,wg];omega
def Cg (d:Int) (p:List Tk→R):Prop:=∀l x r,p l=some (x,r)→(wg x:Int)+wt r≤d+wt l
theorem cg_weak {d e:Int} {p:List Tk→R} (h:Cg d p) (hd:d≤e):Cg e p:=fun l x r q=>by have:=h l x r q;omega
theorem cg_none (d:Int):Cg d (fun _=>none):=fun l x r h=>by cases h
theorem cg_pure {d:Int} (x:Node) (hx:(wg x:Int)≤d):Cg d (fun l=>some (x,l)):=fun l y r h=>by
 injection h with h;injection h with h1 h2;subst h1 h2;omega
theorem cg_alt {d:Int} {w:Bs} {f g:List Tk→R} (hf:Cg (d+1+w.length) f) (hg:Cg d g):Cg d (fun l=>alt w l f (g l)):=by
 intro l x r h
 cases hi:is w l with
 | none=>simp only[alt,hi] at h;exact hg l x r h
 | some l'=>
  simp only[alt,hi] at h
  obtain⟨⟨t,ht,_,hw⟩,_⟩:=is_some hi
  have:=hf l' x r h
  subst ht
  simp only[wt,hw];omega
theorem cg_must {d:Int} {w:Bs} {f:List Tk→R} (hf:Cg (d+1+w.length) f):Cg d (fun l=>must w l f):=cg_alt hf (cg_none _)
theorem cg_tok {d:Int} {k:Nat} {f:Tk→List Tk→R} {g:List Tk→R} (hf:∀t,Cg (d+1+t.text.length) (f t)) (hg:Cg d g):Cg d (fun l=>tok k l f (g l)):=by
 intro l x r h
 cases l with
 | nil=>exact hg [] x r h
 | cons t l=>
  simp only[tok] at h
  by_cases hk:t.kind=k
  ·rw[if_pos hk] at h
   have:=hf t l x r h
   simp only[wt];omega
  ·rw[if_neg hk] at h;exact hg _ x r h
theorem cg_named {d:Int} {f:Bs→List Tk→R} (hf:∀n,Cg (d+1+n.length) (f n)):Cg d (fun l=>named l f):=cg_tok (fun t=>hf t.text) (cg_none _)
theorem cg_and {a d:Int} {p:List Tk→R} {q:Node→List Tk→R} (hp:Cg a p) (hq:∀x,Cg (d - a+wg x) (q x)):Cg d (fun l=>andThen (p l) q):=by
 intro l x r h
 cases hi:p l with
 | none=>simp only[andThen,hi] at h;cases h
 | some y=>
  obtain⟨y,l1⟩:=y
  simp only[andThen,hi] at h
  have h1:=hp l y l1 hi
  have h2:=hq y l1 x r h
  omega
theorem cg_signs {d:Int} {ss:List Bs} {f:Bs→List Tk→R} {g:List Tk→R} (hf:∀n,Cg (d+1+n.length) (f n)) (hg:Cg d g):Cg d (fun l=>signs ss l f (g l)):=by
 induction ss with
 | nil=>exact hg
 | cons a ss ih=>
  have e:(fun l=>signs (a :: ss) l f (g l))=fun l=>alt a l (f a) (signs ss l f (g l)):=by
   funext l
   simp only[signs,anyOf,alt]
   cases is a l<;>rfl
  rw[e]
  exact cg_alt (hf a) ih
theorem cg_peek {d:Int} {w:Bs} {a b:List Tk→R} (ha:Cg d a) (hb:Cg d b):Cg d (fun l=>peek w l (a l) (b l)):=by
 intro l x r h
 cases l with
 | nil=>exact hb [] x r h
 | cons t l=>
  simp only[peek] at h
  by_cases hk:t.kind=4∧t.text=w
  ·rw[if_pos hk] at h;exact ha _ x r h
  ·rw[if_neg hk] at h;exact hb _ x r h
theorem cg_sep {d:Int} {more:Bool} {f:List Tk→R} (hf:Cg d f):Cg d (fun l=>sep more l f):=by
 cases more
 ·exact hf
 ·exact cg_must (cg_weak hf (by omega))
theorem cg_ite {d:Int} {c:Prop} [Decidable c] {p q:List Tk→R} (hp:Cg d p) (hq:Cg d q):Cg d (fun l=>if c then p l else q l):=by
 by_cases h:c
 ·simpa [h] using hp
 ·simpa [h] using hq
def owes:Nt→Int
 | .block=> -1
 | .body _=> -1
 | .inner=> -2
 | .function s=>s.length
 | .blockGo acc=>wgs acc
 | .binGo _ e=>wg e
 | .post e=>wg e
 | .some _ _ _ acc=>wgs acc
 | _=>0
theorem wg_joined (s:Bs) (a b:Node):wg (joined s a b)≤wg a+wg b+s.length+1:=by unfold joined;split<;>(try split)<;>simp[wg,wgs]<;>omega
def goodW:Nt→Bool
 | .some _ .param _ _=>true
 | .some _ .expression _ _=>true
 | .some _ .pair _ _=>true
 | .some _ _ _ _=>false
 | _=>true
theorem goodW_some {f:Bs} {one:Nt} {m:Bool} {acc:List Node} (h:goodW (.some f one m acc)=true):owes one=0∧goodW one=true∧∀m acc,goodW (.some f one m acc)=true:=by
 cases one<;>first | (simp[goodW] at h;done) | exact⟨rfl,rfl,fun _ _=>rfl⟩
set_option maxHeartbeats 1000000 in
theorem run_cg:∀n nt fn lp,goodW nt=true→Cg (owes nt) (fun l=>run n nt fn lp l)
 | 0,nt,fn,lp,_=>by simp only[run];exact cg_none _
 | n+1,nt,fn,lp,hg=>by
  have ih:=run_cg n
  cases nt
  case some fin one more acc=>
   obtain⟨h1,h2,h3⟩:=goodW_some hg
   simp only[run]
   refine cg_alt (cg_pure _ ?_) (cg_sep (cg_and (ih _ _ _ h2) fun x=>cg_weak (ih _ _ _ (h3 _ _)) ?_))
   ·simp only[owes,wg,List.length_nil];omega
   ·rw[h1];simp only[owes,wgs_append,wgs];omega
  case binGo r e=>
   simp only[run]
   refine cg_signs (fun s=>cg_and (ih _ _ _ rfl) fun b=>cg_weak (ih _ _ _ rfl) ?_) (cg_pure _ (by simp only[owes];omega))
   have:=wg_joined s e b
   simp only[owes];omega
  all_goals
   simp only[run]
   repeat' first
    | exact cg_none _
    | (refine cg_must ?_)
    | (refine cg_named fun _=> ?_)
    | (refine cg_alt ?_ ?_)
    | (refine cg_and (ih _ _ _ rfl) fun _=> ?_)
    | (refine cg_tok (fun _=> ?_) ?_)
    | (refine cg_signs (fun _=> ?_) ?_)
    | (refine cg_peek ?_ ?_)
    | (refine cg_ite ?_ ?_)
    | (refine cg_weak (ih _ _ _ rfl) ?_;simp only[owes,wg,wgs,wgs_append,List.length_cons,List.length_nil];omega)
    | (refine cg_pure _ ?_;simp only[owes,wg,wgs,wgs_append,List.length_cons,List.length_nil];omega)
    | (rename_i y;have hy:=wgs_kids y;refine cg_weak (ih _ _ _ rfl) ?_;simp only[owes,wg,wgs,wgs_append,List.length_cons,List.length_nil];omega)
    | (rename_i y;have hy:=wgs_kids y;refine cg_pure _ ?_;simp only[owes,wg,wgs,wgs_append,List.length_cons,List.length_nil];omega)
    | (rename_i y z;have hy:=wgs_kids y;refine cg_pure _ ?_;simp only[owes,wg,wgs,wgs_append,List.length_cons,List.length_nil];omega)
theorem top_wg:∀n acc l k,top n acc l=some k→(wgs k:Int)≤wgs acc+wt l
 | _,acc,[],k,h=>by
  have:k=acc:=by cases ‹Nat› <;>simp[top] at h<;>exact h.symm
  subst this;simp[wt]
 | 0,_,_ :: _,k,h=>by simp[top] at h
 | n+1,acc,t :: l,k,h=>by
  simp only[top] at h
  cases hr:run (fuel (t :: l)) .statement false false (t :: l) with
  | none=>rw[hr] at h;cases h
  | some y=>
   obtain⟨x,r⟩:=y
   rw[hr] at h
   have h1:=top_wg n _ _ _ h
   have h2:=run_cg _ .statement false false rfl (t :: l) x r hr
   simp only[owes] at h2
   rw[wgs_append] at h1
   simp only[wgs] at h1
   omega
theorem txt_le:∀(f:Nat) (l t:Bs) (m:Nat),Lexy.txtF f l=some (t,m)→t.length<m
 | 0,l,t,m,h=>by simp[Lexy.txtF] at h
 | f+1,[],t,m,h=>by simp[Lexy.txtF] at h
 | f+1,c :: r,t,m,h=>by
  simp only[Lexy.txtF] at h
  split at h
  ·simp at h;obtain⟨rfl,rfl⟩:=h;simp
  split at h
  ·cases h
  split at h
  ·split at h
   ·cases h
   ·split at h
    ·cases h
    ·rename_i hr
     simp at h
     obtain⟨rfl,rfl⟩:=h
     have:=txt_le f _ _ _ hr
     simp only[List.length_cons];omega
  ·split at h
   ·cases h
   ·rename_i hr
    simp at h
    obtain⟨rfl,rfl⟩:=h
    have:=txt_le f _ _ _ hr
    simp only[List.length_cons];omega
theorem next_le {l:Bs} {t:Tk} {n:Nat} (h:Lexy.next l= .ok (t,n)):t.text.length≤n:=by
 cases l with
 | nil=>simp[Lexy.next] at h
 | cons c r=>
  simp only[Lexy.next] at h
  split at h
  ·simp only[Lexy.Res.ok.injEq,Prod.mk.injEq] at h
   obtain⟨rfl,rfl⟩:=h
   simp only[List.length_take];omega
  split at h
  ·split at h
   ·cases h
   ·split at h
    ·cases h
    ·simp only[Lexy.Res.ok.injEq,Prod.mk.injEq] at h
     obtain⟨rfl,rfl⟩:=h
     simp
  split at h
  ·split at h
   ·cases h
   ·rename_i ht
    simp only[Lexy.Res.ok.injEq,Prod.mk.injEq] at h
    obtain⟨rfl,rfl⟩:=h
    have:=txt_le _ _ _ _ ht
    simp only;omega
  ·unfold Lexy.sign at h
   split at h
   ·simp only[Lexy.Res.ok.injEq,Prod.mk.injEq] at h
    obtain⟨rfl,rfl⟩:=h
    simp only[List.length_take];omega
   ·split at h
    ·simp only[Lexy.Res.ok.injEq,Prod.mk.injEq] at h
     obtain⟨rfl,rfl⟩:=h
     simp only[List.length_take];omega
    ·cases h
theorem lex_wt {p:Nat} {l:Bs} {ts:List Lexy.Tok} (h:Lexy.Lex p l ts):wt (ts.map (·.toTk))≤ts.length+l.length:=by
 induction h with
 | done p l hd=>simp[wt]
 | more p l t n ts hne hn _ ih=>
  have h1:=next_le hn
  have h2:=Lexy.next_len hn
  have h3:=Lexy.skp_le false l
  rw[List.length_drop] at h2
  rw[List.length_drop,List.length_drop] at ih
  simp only[List.map_cons,wt,List.length_cons]
  omega
theorem parse_wg {s:Bs} {n:Node} (h:parse s= .ok n):wg n≤3001:=by
 unfold parse at h
 cases ht:Lexy.toks s with
 | err e=>rw[ht] at h;cases h
 | ok l=>
  rw[ht] at h
  simp only at h
  unfold Lexy.toks at ht
  split at ht
  ·cases ht
  ·rename_i hl
   obtain⟨h1,h2⟩:=Lexy.lex_of _ _ _ _ ht
   unfold tree at h
   cases hr:top (l.map (·.toTk)).length [] (l.map (·.toTk)) with
   | none=>rw[hr] at h;cases h
   | some k=>
    rw[hr] at h
    simp only[Option.map_some] at h
    split at h
    ·cases h
    ·injection h with h
     subst h
     have h3:=top_wg _ _ _ _ hr
     have h4:=lex_wt h1
     simp only[wgs,wg,List.length_nil] at h3 ⊢
     omega
end Pars
namespace Scopy
def fewK (k:Int):Bool:=[1,5,9,10,15,20,21,25,30].contains k
mutual
def few:Pars.Node→Bool
 | .mk k _ _ l=>fewK k&&fews l
def fews:List Pars.Node→Bool
 | []=>true
 | x :: l=>few x&&fews l
end
theorem fews_mem:∀{l:List Pars.Node},fews l=true→∀x∈l,few x=true
 | y :: l,h,x,hx=>by
  simp only[fews,Bool.and_eq_true] at h
  rcases List.mem_cons.1 hx with rfl | hx
  ·exact h.1
  ·exact fews_mem h.2 x hx
end Scopy
namespace Scopy
abbrev Txt:=List UInt8
def sIn:Txt:=[108,101,116,32,120,32,61,32,49,59,32,102,110,32,102,40,121,41,32,123,32,114,101,116,117,114,110,32,120,32,43,32,121,59,32,125]
def sOut:Txt:=[108,101,116,32,122,32,61,32,49,59,32,102,110,32,102,40,121,41,32,123,32,114,101,116,117,114,110,32,122,32,43,32,121,59,32,125]
def d0:Decl:={kind:=20,name:=[120],deep:=0,caught:=true}
def d1:Decl:={kind:=21,name:=[102],deep:=0,caught:=false}
def d2:Decl:={kind:=10,name:=[121],deep:=1,caught:=false}
def sOk:Bool:=match Pars.parse sIn with
 | .ok n=>decide ((names n []).e=0)&&(decide ((names n []).decls=[d0,d1,d2])&&(decide ((names n []).uses=[([120],0),([121],2)])&&(decide ((rename n 0 [122] []).2=0)&&(decide (Wri.wg (rename n 0 [122] []).1≤1048576)&&(match Wri.write (rename n 0 [122] []).1 with | .ok s=>decide (s=sOut)&&few (rename n 0 [122] []).1 | _=>false)))))
 | _=>false
theorem s_ok:sOk=true:=by decide+kernel
theorem s_is:∃n,Pars.parse sIn= .ok n∧(names n []).e=0∧(names n []).decls=[d0,d1,d2]∧(names n []).uses=[([120],0),([121],2)]∧(rename n 0 [122] []).2=0∧Wri.wg (rename n 0 [122] []).1≤1048576∧Wri.write (rename n 0 [122] []).1= .ok sOut∧few (rename n 0 [122] []).1=true:=by
 have h:=s_ok
 unfold sOk at h
 cases hp:Pars.parse sIn with
 | error e=>rw[hp] at h;cases h
 | ok n=>
  rw[hp] at h
  simp only[Bool.and_eq_true,decide_eq_true_eq] at h
  obtain⟨h1,h2,h3,h4,h5,h6⟩:=h
  refine⟨n,rfl,h1,h2,h3,h4,h5,?_⟩
  cases hw:Wri.write (rename n 0 [122] []).1 with
  | error e=>rw[hw] at h6;cases h6
  | ok s=>rw[hw] at h6;simp only[Bool.and_eq_true,decide_eq_true_eq] at h6;exact⟨by rw[h6.1],h6.2⟩
end Scopy
namespace Go.Proofs.YtflmjbmdmoifhaaGreatDoor
open Go.Lib (hid)
open Go.RowKit
def Box (w:World) (b:Nat) (t:TypeId) (cs:Array Value):Prop:=w.heap[b]? =some (.cells cs t (0,0))
section
variable {w w1 w2 : World} {b : Nat} {t : TypeId} {cs : Array Value}
theorem Box.lt (h:Box w b t cs):b<w.heap.size:=by
 rcases Nat.lt_or_ge b w.heap.size with hlt | hge
 ·exact hlt
 ·unfold Box at h;rw[Array.getElem?_eq_none hge] at h;cases h
theorem Box.cell (h:Box w b t cs) (i:Nat):w.cell? ⟨b,i,none⟩=cs[i]? :=by
 unfold Box at h;simp[World.cell?,h]
theorem Box.frozen (h:Box w b t cs) (i:Nat):w.frozen? ⟨b,i,none⟩=false:=by
 unfold Box at h;simp[World.frozen?,h]
theorem Box.new (w:World) (t:TypeId) (cs:Array Value):Box (w.alloc (.cells cs t)) w.heap.size t cs:=by
 show (w.heap.push _)[w.heap.size]? =_
 simp
theorem Box.drew (h:Box w b t cs):Box w.drew b t cs:=h
theorem Box.drewN (h:Box w b t cs) (n:Nat):Box (w.drewN n) b t cs:=h
theorem Box.alloc (h:Box w b t cs) (o:Obj):Box (w.alloc o) b t cs:=(Below.heap_alloc w o b h.lt).trans h
theorem Box.set (h:Box w b t cs) (i:Nat) (u:Value):Box (w.setCell ⟨b,i,none⟩ u) b t (cs.setIfInBounds i u):=by
 unfold Box at h ⊢
 simp[World.setCell,Array.getElem?_modify,h]
theorem Box.far (h:Box w b t cs) {p:Addr} (hp:b≠p.block) (u:Value):Box (w.setCell p u) b t cs:=(Below.heap_setCell w p u b hp).trans h
theorem Box.below {B:Nat} (h:Box w b t cs) (hb:Below B w w1) (hg:b<B):Box w1 b t cs:=(hb.block b hg).trans h
theorem Box.grown {row:Option Nat} (h:Box w b t cs) (hb:w.grownBy w1 row) (hg:some b≠row):Box w1 b t cs:=(hb.block b h.lt hg).trans h
end
abbrev Upd (w w':World) (b:Nat):Prop:=w.grownBy w' (some b)
section
variable {a w w1 w2 : World} {b : Nat}
theorem Upd.refl (w:World) (b:Nat):Upd w w b:=⟨rfl,rfl,rfl,Nat.le_refl _,fun _ _ _=>rfl⟩
theorem Upd.trans (h:Upd a w b) (k:Upd w w1 b):Upd a w1 b:=
 ⟨k.os.trans h.os,k.tape.trans h.tape,k.output.trans h.output,Nat.le_trans h.size k.size,fun i hi hn=>(k.block i (Nat.lt_of_lt_of_le hi h.size) hn).trans (h.block i hi hn)⟩
theorem Upd.drew (h:Upd a w b):Upd a w.drew b:=⟨h.os,h.tape,h.output,h.size,h.block⟩
theorem Upd.drewN (h:Upd a w b) (n:Nat):Upd a (w.drewN n) b:=⟨h.os,h.tape,h.output,h.size,h.block⟩
theorem Upd.alloc (h:Upd a w b) (o:Obj):Upd a (w.alloc o) b:=
 ⟨h.os,h.tape,h.output,Nat.le_trans h.size (by simp),fun i hi hn=>(Below.heap_alloc w o i (Nat.lt_of_lt_of_le hi h.size)).trans (h.block i hi hn)⟩
theorem Upd.set (h:Upd a w b) {p:Addr} (hp:p.block=b∨a.heap.size≤p.block) (u:Value):Upd a (w.setCell p u) b:=
 ⟨h.os,h.tape,h.output,by simpa [World.setCell] using h.size,fun i hi hn=>(Below.heap_setCell w p u i (by
  rintro rfl
  rcases hp with hp | hp
  ·exact hn (by rw[hp])
  ·omega)).trans (h.block i hi hn)⟩
theorem Upd.below (h:Below a.heap.size a w) (b:Nat):Upd a w b:=⟨h.os,h.tape,h.output,h.size,fun i hi _=>h.block i hi⟩
theorem Upd.step (h:Upd a w b) (k:Below w.heap.size w w1):Upd a w1 b:=h.trans (.below k b)
theorem Upd.own (h:Upd w w1 b) {B:Nat} (hB:B≤b) (hw:B≤w.heap.size):Below B w w1:=
 ⟨h.os,h.tape,h.output,h.size,fun i hi=>h.block i (by omega) (by simp;omega)⟩
theorem below_grown {B:Nat} {row:Option Nat} (hg:w.grownBy w1 row) (hB:B≤w.heap.size) (hr:∀k,row=some k→B≤k):Below B w w1:=
 ⟨hg.os,hg.tape,hg.output,hg.size,fun k hk=>hg.block k (by omega) (fun e=>by have:=hr k e.symm;omega)⟩
theorem below_drewN {B:Nat} (h:Below B a w) (n:Nat):Below B a (w.drewN n):=⟨h.os,h.tape,h.output,h.size,h.block⟩
end
theorem Upd.far {a w w1:World} {b g:Nat} (h:Upd a w b) (k:Upd w w1 g) (hg:a.heap.size≤g):Upd a w1 b:=
 ⟨k.os.trans h.os,k.tape.trans h.tape,k.output.trans h.output,Nat.le_trans h.size k.size,fun i hi hn=>(k.block i (Nat.lt_of_lt_of_le hi h.size) (by simp;omega)).trans (h.block i hi hn)⟩
section
variable {P : Program}
theorem wpList_store_box {ops:Array Oper} {rest:List Oper} {o:Oper} {a:Act} {w:World} {Q:Exit→Act→World→Prop} (hgd:o.guard=none) (ty:TypeId) (x y:Operand) (ho:o.op= .store ty x y)
  (g:Nat) (cells:Array Value) (hx:a.eval x= .pointer (some ⟨g,0,none⟩)) (hy:a.eval y= .agg cells) (t:TypeId) (old:Array Value) (hg:Box w g t old) (hi:(P.info? ty).map (·.size)=some cells.size)
  (hold:old.size=cells.size) (h1:cells.all (·.oneCell')=true)
  (h:∀w',Box w' g t cells→Upd w w' g→w'.heap.size=w.heap.size→wpList P ops Q rest (a.put o.dst undef) w'):wpList P ops Q (o :: rest) a w:=
 wpList_store_row hgd ty x y ho g cells hx hy t old hg hi hold h1
  (h _ (setRow_heap w g old cells t (0,0) hg) ⟨rfl,rfl,rfl,by simp,fun k _ hn=>setRow_other w g k cells (by simpa using hn)⟩ (by simp))
theorem results_box {fn:Func} {p:Tmp} {ty:TypeId} (h:fn.results= #[.cell p ty]) (tmps:Array Value) (w:World) (g:Nat) (t:TypeId) (cs:Array Value) (d:TypeDesc)
  (hp:tmps.getD p undef= .pointer (some ⟨g,0,none⟩)) (hg:Box w g t cs) (hu:P.underlying ty=some d) (hd:(match d with | .struct _ | .array _ _=>true | _=>false)=true) (hi:(P.info? ty).map (·.size)=some cs.size):
  (results fn tmps).run P w= .ok (.agg cs) w:=results_cell_row h tmps w g t cs (0,0) d hp hg hu hd hi
theorem results_box_tmp {fn:Func} {p u:Tmp} {ty:TypeId} (h:fn.results= #[.cell p ty,.tmp u]) (tmps:Array Value) (w:World) (g:Nat) (t:TypeId) (cs:Array Value) (d:TypeDesc)
  (hp:tmps.getD p undef= .pointer (some ⟨g,0,none⟩)) (hg:Box w g t cs) (hu:P.underlying ty=some d) (hd:(match d with | .struct _ | .array _ _=>true | _=>false)=true) (hi:(P.info? ty).map (·.size)=some cs.size):
  (results fn tmps).run P w= .ok (.tuple #[.agg cs,tmps.getD u undef]) w:=by
 rw[results_cell_tmp h,hp]
 have:=run_loadVar_row (P:=P) w g t ty cs (0,0) d hg hu hd hi
 simp[asAddr,this]
end
theorem quiet_more_same {P:Program} {f:FuncId} {args:Array Value} {w:World} {a n:Nat} {v:Value}
  (h:Calls P f args (w.drewN (a+n)) fun e w'=>e= .returned v∧w'=w.drewN (a+n)):
  Calls P f args (w.drewN (a+n)) fun e w''=>e= .returned v∧∃m,w''=w.drewN (a+m):=
 h.mono fun _ _ ⟨he,hm⟩=>⟨he,n,hm⟩
end Go.Proofs.YtflmjbmdmoifhaaGreatDoor
namespace Go.Proofs.YtflmjbmdmoifhaaGreatDoor
open Go.Lib (hid)
open Go.RowKit
theorem bg {w w1:World} {b:Nat} {t:TypeId} {cs:Array Value} {row:Option Nat} (h:Hid (Box w b t cs)) (hb:w.grownBy w1 row) (hg:some b≠row:=by intro h;injection h with h;omega):Hid (Box w1 b t cs):=Lib.hid (Box.grown h.out hb hg)
theorem bl {w w1:World} {b:Nat} {t:TypeId} {cs:Array Value} (h:Hid (Box w b t cs)) (hb:Below w.heap.size w w1):Hid (Box w1 b t cs):=Lib.hid (h.out.below hb h.out.lt)
end Go.Proofs.YtflmjbmdmoifhaaGreatDoor
namespace Go.Proofs.YtflmjbmdmoifhaaGreatDoor
open Go.Lib (hid)
open Go.RowKit
theorem own_box {w:World} {base:Nat} {e:TypeId} {k n:Nat} {v:Value} {xs:List Value} (h:w.ownsRow base e k v n xs) (hn:0<n):
  ∃g cap R,v= .slice (some ⟨g,0,none⟩) n cap∧base≤g∧Box w g e (xs++R).toArray∧n≤cap∧cap≤9223372036854775807∧(xs++R).length=cap * k:=by
 rcases h.2 with⟨_,h0⟩ | ⟨g,cap,cur,hv,hb,hg,h1,h2,h3,h4⟩
 ·omega
 ·unfold maxLen at h2
  have e1:xs++cur.toList.drop (n * k)=cur.toList:=by rw[←h4,List.take_append_drop]
  refine⟨g,cap,cur.toList.drop (n * k),hv,hb,?_,h1,by omega,?_⟩
  ·rw[e1];exact hg
  ·rw[e1];simpa using h3
theorem box_own {w:World} {base:Nat} {e:TypeId} {k n cap g:Nat} {xs cur:List Value} (hb:base≤g) (hg:Box w g e cur.toArray) (hn:n≤cap) (hc:cap≤9223372036854775807) (hs:cur.length=cap * k) (ht:cur.take (n * k)=xs) (hl:xs.length=n * k):
  w.ownsRow base e k (.slice (some ⟨g,0,none⟩) n cap) n xs:=
 ⟨hl,.inr ⟨g,cap,cur.toArray,rfl,hb,hg,hn,by unfold maxLen;omega,by simpa using hs,by simpa using ht⟩⟩
theorem own_grown {w w1:World} {base:Nat} {e:TypeId} {k n:Nat} {v:Value} {xs:List Value} {row:Option Nat} (h:w.ownsRow base e k v n xs) (hg:w.grownBy w1 row) (hne:v.ownBlock=none∨v.ownBlock≠row):w1.ownsRow base e k v n xs:=h.kept hg hne
theorem own_below {w w1:World} {base:Nat} {e:TypeId} {k n:Nat} {v:Value} {xs:List Value} (h:w.ownsRow base e k v n xs) (hb:Below w.heap.size w w1):w1.ownsRow base e k v n xs:=
 h.kept (row:=none) ⟨hb.os,hb.tape,hb.output,hb.size,fun i hi _=>hb.block i hi⟩ (by cases hv:v.ownBlock<;>simp)
theorem own_base {w:World} {base base':Nat} {e:TypeId} {k n:Nat} {v:Value} {xs:List Value} (h:w.ownsRow base e k v n xs) (hb:base'≤base):w.ownsRow base' e k v n xs:=by
 refine⟨h.1,?_⟩
 rcases h.2 with hn | ⟨g,cap,cur,e1,h1,h2⟩
 ·exact .inl hn
 ·exact .inr ⟨g,cap,cur,e1,by omega,h2⟩
end Go.Proofs.YtflmjbmdmoifhaaGreatDoor
namespace Go.Proofs.YtflmjbmdmoifhaaGreatDoor
open Go.Lib (hid)
open Go.RowKit
section
variable {P : Program} {ops : Array Oper} {o : Oper} {a : Act} {w : World} {K : Act → World → Prop} {Q : Exit → Act → World → Prop} {E : Prop}
theorem yields_load_box {S:World→Prop} (hw:Region.wanted o (yielded ops a.tmps)=true) (ty:TypeId) (x:Operand) (ho:o.op= .load ty x) (g:Nat) (t:TypeId) (cs:Array Value) (d:TypeDesc) (hx:a.eval x= .pointer (some ⟨g,0,none⟩))
  (hS:∀w,S w→Box w g t cs) (hu:P.underlying ty=some d) (hd:(match d with | .struct _ | .array _ _=>true | _=>false)=true) (hi:(P.info? ty).map (·.size)=some cs.size):YieldsIf P ops S o (.agg cs) a:=
 .inl ⟨hw,fun w h=>by
  have:=run_loadVar_row (P:=P) w g t ty cs (0,0) d (hS w h) hu hd hi
  unfold execOp
  simp only[ho,hx,Instr.loadAt,Instr.sureAddr,Sem.run_bind,Sem.run_pure,Result.andThen_ok,this]⟩
theorem step_store_box (hgd:o.guard=none) (ty:TypeId) (x y:Operand) (ho:o.op= .store ty x y) (g:Nat) (cells:Array Value) (hx:a.eval x= .pointer (some ⟨g,0,none⟩)) (hy:a.eval y= .agg cells) (t:TypeId) (old:Array Value) (hg:Box w g t old)
  (hi:(P.info? ty).map (·.size)=some cells.size) (hold:old.size=cells.size) (h1:cells.all (·.oneCell')=true)
  (h:∀w',Box w' g t cells→Upd w w' g→w'.heap.size=w.heap.size→K (a.put o.dst undef) w'):
  if Region.wanted o (yielded ops a.tmps)=true then Oper.wp P o a w K Q else E:=by
 have hw:Region.wanted o (yielded ops a.tmps)=true:=by simp[Region.wanted,hgd]
 rw[if_pos hw]
 exact wp_store_row ty x y ho g cells hx hy t old hg hi hold h1 (h _ (setRow_heap w g old cells t (0,0) hg) ⟨rfl,rfl,rfl,by simp,fun k _ hn=>setRow_other w g k cells (by simpa using hn)⟩ (by simp))
end
section
variable {P : Program} {fn : Func} {tmps : Array Value} {w : World} {p1 p2 u1 u2 : Tmp} {g1 g2 : Nat} {t1 t2 ty1 ty2 : TypeId} {c1 c2 : Array Value} {d1 d2 : TypeDesc}
structure Back (P:Program) (w:World) (tmps:Array Value) (p:Tmp) (ty:TypeId) (cs:Array Value):Prop where
 out:∃a,tmps.getD p undef= .pointer (some a)∧(loadVar ty a).run P w= .ok (.agg cs) w
theorem Back.mk' (g:Nat) (t:TypeId) (d:TypeDesc) {p:Tmp} {ty:TypeId} {cs:Array Value} (hp:tmps.getD p undef= .pointer (some ⟨g,0,none⟩)) (hg:Box w g t cs) (hu:P.underlying ty=some d)
  (hd:(match d with | .struct _ | .array _ _=>true | _=>false)=true) (hi:(P.info? ty).map (·.size)=some cs.size):Back P w tmps p ty cs:=⟨⟨_,hp,run_loadVar_row (P:=P) w g t ty cs (0,0) d hg hu hd hi⟩⟩
end
end Go.Proofs.YtflmjbmdmoifhaaGreatDoor
namespace Go.Proofs.YtflmjbmdmoifhaaGreatDoor
open Go.Lib (hid)
open Go.RowKit
def byt (l:List UInt8):ByteArray:=⟨l.toArray⟩
theorem ret_bool {a b:Bool} (h:a=b):Ending.returned (.bool a)= .returned (.bool b):=by rw[h]
theorem byt_list (s:List UInt8):(byt s).toList=s:=by rw[ByteArray.toList_eq];rfl
theorem byt_data (s:List UInt8):(byt s).data.toList=s:=rfl
theorem byt_size (s:List UInt8):(byt s).size=s.length:=by simp[byt,ByteArray.size]
theorem byt_inj {a b:List UInt8} (h:byt a=byt b):a=b:=by
 have:=congrArg (fun x:ByteArray=>x.data.toList) h
 simpa [byt_data] using this
theorem byt_append (a b:List UInt8):byt a++byt b=byt (a++b):=by
 unfold byt
 apply ByteArray.ext
 simp
theorem below1 (w:World) (o:Obj):Below w.heap.size w (w.alloc o):=(Below.refl _ _).alloc (Nat.le_refl _) _
theorem new2 (w:World) (o:Obj) (t:TypeId) (cs:Array Value):Box ((w.alloc o).alloc (.cells cs t)) (w.heap.size+1) t cs:=by
 have:=Box.new (w.alloc o) t cs
 rwa [World.size_alloc] at this
theorem new3 (w:World) (o o':Obj) (t:TypeId) (cs:Array Value):Box (((w.alloc o).alloc o').alloc (.cells cs t)) (w.heap.size+2) t cs:=by
 have:=Box.new ((w.alloc o).alloc o') t cs
 rwa [World.size_alloc,World.size_alloc] at this
theorem byt_of (s:ByteArray):∃l:List UInt8,s=byt l:=⟨s.data.toList,by cases s;simp[byt]⟩
def flat {α:Type} (f:α→Array Value) (l:List α):List Value:=l.flatMap fun x=>(f x).toList
section
variable {α : Type} {f : α → Array Value} {k : Nat}
theorem flat_cons (x:α) (l:List α):flat f (x :: l)=(f x).toList++flat f l:=rfl
theorem flat_append (a b:List α):flat f (a++b)=flat f a++flat f b:=by simp[flat]
theorem flat_len (hk:∀x,(f x).size=k):∀l:List α,(flat f l).length=l.length * k
 | []=>by simp[flat]
 | x :: l=>by rw[flat_cons,List.length_append,flat_len hk l,List.length_cons,Nat.add_mul];simp[hk];omega
theorem flat_at (hk:∀x,(f x).size=k):∀(l:List α) (j:Nat) (x:α),l[j]? =some x→∀i v,(f x).toList[i]? =some v→(flat f l)[j * k+i]? =some v
 | [],_,_,h,_,_,_=>by simp at h
 | y :: l,0,x,h,i,v,hv=>by
  simp at h;subst h
  have hi:i<(f y).toList.length:=(List.getElem?_eq_some_iff.1 hv).1
  rw[flat_cons,Nat.zero_mul,Nat.zero_add,List.getElem?_append_left hi];exact hv
 | y :: l,j+1,x,h,i,v,hv=>by
  have h5:(f y).toList.length=k:=by simp[hk]
  rw[flat_cons,List.getElem?_append_right (by rw[h5,Nat.add_mul];omega),h5,show (j+1) * k+i - k=j * k+i by rw[Nat.add_mul];omega]
  exact flat_at hk l j x (by simpa using h) i v hv
theorem flat_one (h1:∀x,(f x).all (·.oneCell')=true) (l:List α):∀u∈flat f l,u.oneCell'=true:=by
 intro u hu
 simp only[flat,List.mem_flatMap] at hu
 obtain⟨x,_,hx⟩:=hu
 have:=h1 x
 rw[Array.all_eq_true'] at this
 exact this u (by simpa using hx)
end
def Rd (w:World) (_k:Nat) (xs:List Value) (n:Nat) (v:Value):Prop:=
 ∃A cap,v= .slice A n cap∧n≤cap∧cap≤9223372036854775807∧(0<n→∃g o,A=some ⟨g,o,none⟩∧g<w.heap.size∧w.rangeAt g o xs)
abbrev RdL {α:Type} (w:World) (k:Nat) (f:α→Array Value) (l:List α) (v:Value):Prop:=Rd w k (flat f l) l.length v
section
variable {w w1 : World} {k n : Nat} {xs : List Value} {v : Value}
theorem Rd.keep (h:Rd w k xs n v) (hb:∀p:Addr,p.block<w.heap.size→w1.cell? p=w.cell? p) (hz:w.heap.size≤w1.heap.size):Rd w1 k xs n v:=by
 obtain⟨A,cap,e,h1,h2,h3⟩:=h
 refine⟨A,cap,e,h1,h2,fun hn=> ?_⟩
 obtain⟨g,o,e2,h4,h5⟩:=h3 hn
 exact⟨g,o,e2,by omega,fun j u hu=>by rw[hb _ h4];exact h5 j u hu⟩
theorem Rd.below (h:Rd w k xs n v) (hb:Below w.heap.size w w1):Rd w1 k xs n v:=h.keep (fun _ hp=>hb.cell hp) hb.size
theorem Rd.nil (w:World) (k:Nat):Rd w k [] 0 (.slice none 0 0):=⟨none,0,rfl,Nat.le_refl _,by omega,by omega⟩
theorem Rd.own {base:Nat} {e:TypeId} (h:w.ownsRow base e k v n xs):Rd w k xs n v:=by
 rcases h.2 with⟨rfl,rfl⟩ | ⟨g,cap,cur,rfl,hb,hg,hn,hc,hs,ht⟩
 ·exact⟨none,0,rfl,Nat.le_refl _,by omega,by omega⟩
 ·unfold maxLen at hc
  refine⟨_,cap,rfl,hn,by omega,fun _=>⟨g,0,rfl,(Array.getElem?_eq_some_iff.1 hg).1,fun j u hu=> ?_⟩⟩
  have hj:j<n * k:=by rw[←h.1];exact (List.getElem?_eq_some_iff.1 hu).1
  rw[Nat.zero_add,h.cellAt j hj];exact hu
end
theorem RdL.elem {α:Type} {w:World} {k:Nat} {f:α→Array Value} {l:List α} {g o j:Nat} {x:α} (hk:∀x,(f x).size=k)
  (h:w.rangeAt g o (flat f l)) (hx:l[j]? =some x):w.rangeAt g (o+j * k) (f x).toList:=fun i v hv=>by
 have:=flat_at hk l j x hx i v hv
 have h2:=h _ _ this
 rw[←Nat.add_assoc] at h2;exact h2
def OwnOut (w:World) (E k n:Nat) (xs:List Value) (e:Ending) (w':World):Prop:=
 ∃v,e= .returned v∧w'.ownsRow w.heap.size E k v n xs∧Below w.heap.size w w'
def Apart (u v:Value):Prop:=∀g,u.ownBlock=some g→v.ownBlock≠some g
theorem Apart.symm {u v:Value} (h:Apart u v):Apart v u:=fun g hv hu=>h g hu hv
theorem Apart.ne {u v:Value} (h:Apart u v):u.ownBlock=none∨u.ownBlock≠v.ownBlock:=by
 cases hu:u.ownBlock with
 | none=>exact .inl rfl
 | some g=>exact .inr (fun e=>h g hu e.symm)
theorem Apart.nil (v:Value) (n c:Nat):Apart (.slice none n c) v:=fun g h=>by simp[Value.ownBlock] at h
theorem own_slice {w:World} {B e k n:Nat} {v:Value} {xs:List Value} (h:w.ownsRow B e k v n xs):∃A cap,v= .slice A n cap:=by
 rcases h.2 with⟨rfl,rfl⟩ | ⟨_,_,_,rfl,_⟩
 ·exact⟨_,_,rfl⟩
 ·exact⟨_,_,rfl⟩
theorem own_one {w:World} {B e k n:Nat} {v:Value} {xs:List Value} (h:w.ownsRow B e k v n xs):v.oneCell'=true:=by
 rcases h.2 with⟨rfl,_⟩ | ⟨_,_,_,rfl,_⟩<;>rfl
theorem own_far {w w1:World} {base g:Nat} {e:TypeId} {k n:Nat} {v:Value} {xs:List Value} (h:w.ownsRow base e k v n xs) (hu:Upd w w1 g) (hg:g<base):w1.ownsRow base e k v n xs:=
 own_grown h hu (by
  cases hv:v.ownBlock with
  | none=>exact .inl rfl
  | some b=>exact .inr (fun e=>by injection e with e;have:=(h.lt b hv).1;omega))
end Go.Proofs.YtflmjbmdmoifhaaGreatDoor
namespace Go.Proofs.YtflmjbmdmoifhaaGreatDoor
open Go.Lib (hid)
open Go.RowKit
def nc (k n:Int) (t:List UInt8) (v:Value):Array Value:= #[.int .i64 k,.int .i64 n,.string (byt t),v]
def flatA (l:List (Array Value)):List Value:=l.flatMap Array.toList
mutual
def NodeAt (w:World) (S:Nat→Prop):Pars.Node→Array Value→Prop
 | .mk k n t l,cs=>∃(A:Option Addr) (cap:Nat) (css:List (Array Value)),cs=nc k n t (.slice A l.length cap)∧l.length≤cap∧cap≤9223372036854775807∧
   (0<l.length→∃g o,A=some ⟨g,o,none⟩∧S g∧g<w.heap.size∧w.rangeAt g o (flatA css))∧NodesAt w S l css
def NodesAt (w:World) (S:Nat→Prop):List Pars.Node→List (Array Value)→Prop
 | [],[]=>True
 | n :: l,c :: cs=>NodeAt w S n c∧NodesAt w S l cs
 | [],_ :: _=>False
 | _ :: _,[]=>False
end
theorem NodesAt.len {w:World} {S:Nat→Prop}:∀{l:List Pars.Node} {cs:List (Array Value)},NodesAt w S l cs→cs.length=l.length
 | [],[],_=>rfl
 | _ :: l,_ :: cs,h=>by unfold NodesAt at h;simp[NodesAt.len h.2]
 | [],_ :: _,h=>by unfold NodesAt at h;exact h.elim
 | _ :: _,[],h=>by unfold NodesAt at h;exact h.elim
mutual
theorem NodeAt.keep {w w1:World} {S S1:Nat→Prop} (hs:∀g,S g→g<w.heap.size→S1 g) (hz:w.heap.size≤w1.heap.size) (hb:∀g,S g→g<w.heap.size→w1.heap[g]? =w.heap[g]?):∀{n:Pars.Node} {cs:Array Value},NodeAt w S n cs→NodeAt w1 S1 n cs
 | .mk k n t l,cs,h=>by
  unfold NodeAt at h ⊢
  obtain⟨A,cap,css,h1,h2,h3,h4,h5⟩:=h
  refine⟨A,cap,css,h1,h2,h3,fun hl=> ?_,NodesAt.keep hs hz hb h5⟩
  obtain⟨g,o,e1,e2,e3,e4⟩:=h4 hl
  refine⟨g,o,e1,hs g e2 e3,by omega,fun i u hu=> ?_⟩
  rw[World.cell?_of_block (hb g e2 e3)]
  exact e4 i u hu
theorem NodesAt.keep {w w1:World} {S S1:Nat→Prop} (hs:∀g,S g→g<w.heap.size→S1 g) (hz:w.heap.size≤w1.heap.size) (hb:∀g,S g→g<w.heap.size→w1.heap[g]? =w.heap[g]?):∀{l:List Pars.Node} {cs:List (Array Value)},NodesAt w S l cs→NodesAt w1 S1 l cs
 | [],[],_=>by unfold NodesAt;trivial
 | n :: l,c :: cs,h=>by
  unfold NodesAt at h ⊢
  exact⟨NodeAt.keep hs hz hb h.1,NodesAt.keep hs hz hb h.2⟩
 | [],_ :: _,h=>by unfold NodesAt at h;exact h.elim
 | _ :: _,[],h=>by unfold NodesAt at h;exact h.elim
end
theorem NodeAt.size {w:World} {S:Nat→Prop}:∀{n:Pars.Node} {cs:Array Value},NodeAt w S n cs→cs.size=4
 | .mk k n t l,cs,h=>by unfold NodeAt at h;obtain⟨A,cap,css,rfl,_⟩:=h;rfl
theorem NodeAt.one {w:World} {S:Nat→Prop}:∀{n:Pars.Node} {cs:Array Value},NodeAt w S n cs→cs.all (·.oneCell')=true
 | .mk k n t l,cs,h=>by unfold NodeAt at h;obtain⟨A,cap,css,rfl,_⟩:=h;simp[nc,Value.oneCell']
theorem NodeAt.leaf (w:World) (S:Nat→Prop) (k n:Int) (t:List UInt8):NodeAt w S (.mk k n t []) (nc k n t (.slice none 0 0)):=by
 unfold NodeAt
 exact⟨none,0,[],rfl,Nat.le_refl _,by omega,fun h=>absurd h (by simp),by unfold NodesAt;trivial⟩
theorem NodesAt.snoc {w:World} {S:Nat→Prop} {n:Pars.Node} {c:Array Value} (hn:NodeAt w S n c):∀{l:List Pars.Node} {cs:List (Array Value)},NodesAt w S l cs→NodesAt w S (l++[n]) (cs++[c])
 | [],[],_=>by simp only[List.nil_append];unfold NodesAt;exact⟨hn,by unfold NodesAt;trivial⟩
 | m :: l,d :: cs,h=>by unfold NodesAt at h;simp only[List.cons_append];unfold NodesAt;exact⟨h.1,NodesAt.snoc hn h.2⟩
 | [],_ :: _,h=>by unfold NodesAt at h;exact h.elim
 | _ :: _,[],h=>by unfold NodesAt at h;exact h.elim
theorem flatA_append (a b:List (Array Value)):flatA (a++b)=flatA a++flatA b:=by simp[flatA]
theorem NodesAt.flat_len {w:World} {S:Nat→Prop}:∀{l:List Pars.Node} {cs:List (Array Value)},NodesAt w S l cs→(flatA cs).length=l.length * 4
 | [],[],_=>rfl
 | n :: l,c :: cs,h=>by
  unfold NodesAt at h
  have h1:=NodeAt.size h.1
  have h2:=NodesAt.flat_len h.2
  simp only[flatA,List.flatMap_cons,List.length_append,List.length_cons] at h2 ⊢
  rw[h2,Array.length_toList,h1];omega
 | [],_ :: _,h=>by unfold NodesAt at h;exact h.elim
 | _ :: _,[],h=>by unfold NodesAt at h;exact h.elim
theorem NodesAt.all_one {w:World} {S:Nat→Prop}:∀{l:List Pars.Node} {cs:List (Array Value)},NodesAt w S l cs→∀u∈flatA cs,u.oneCell'=true
 | [],[],_=>by simp[flatA]
 | n :: l,c :: cs,h=>by
  unfold NodesAt at h
  intro u hu
  simp only[flatA,List.flatMap_cons,List.mem_append] at hu
  rcases hu with hu | hu
  ·have:=NodeAt.one h.1
   rw[Array.all_eq_true'] at this
   exact this u (Array.mem_toList_iff.1 hu)
  ·exact NodesAt.all_one h.2 u hu
 | [],_ :: _,h=>by unfold NodesAt at h;exact h.elim
 | _ :: _,[],h=>by unfold NodesAt at h;exact h.elim
def kc (p:Lexy.Tk×Int×Int):Array Value:= #[.int .i64 (p.1.kind:Int),.int .i64 p.2.1,.int .i64 p.2.2,.string (byt p.1.text),.int .i64 (p.1.num:Int)]
theorem kc_one (p:Lexy.Tk×Int×Int):(kc p).all (·.oneCell')=true:=by simp[kc,Value.oneCell']
def KRd (w:World) (ts:List (Lexy.Tk×Int×Int)) (v:Value):Prop:=Rd w 5 (flat kc ts) ts.length v
def pc (v:Value) (k:Nat) (fn lp:Bool):Array Value:= #[v,.int .i64 (k:Int),.bool fn,.bool lp]
def toks (ts:List (Lexy.Tk×Int×Int)):List Lexy.Tk:=ts.map (·.1)
end Go.Proofs.YtflmjbmdmoifhaaGreatDoor
namespace Go.Proofs.YtflmjbmdmoifhaaGreatDoor
open Go.Lib (hid)
open Go.RowKit Go.Maps Go.ChangeMaps Go.MapKept
structure Rdr (α:Type) where
 val:α→Value
 R:Value→Option (DataW Unit×List MemPlace)
 enc:α→DataW Unit
 ok:∀x,R (val x)=some (enc x,[])
 inv:∀v x ps,R v=some (enc x,ps)→v=val x
theorem txtKey:Keyed Tryz.prog 9:=string_keyed Tryz.underlying9
theorem keyTxt (k:List UInt8) (h:k.length≤maxLen):keyOf Tryz.prog 9 (.string (byt k))=some (.string k):=by
 have:=WideMaps.keyOf_string_mk (P:=Tryz.prog) Tryz.underlying9 (s:=byt k) (by rw[byt_size];exact h)
 rwa [byt_data] at this
def MapF {α:Type} (r:Rdr α) (w:World) (b n:Nat) (f:List UInt8→Option α):Prop:=
 ∃D:DataW Unit,w.ownsMap Tryz.prog 9 r.R b n D∧∀k:List UInt8,Maps.has D (.string k)=(f k).isSome∧∀z,D.atKey (.string k) z=(f k).elim z r.enc
section
variable {α : Type} {r : Rdr α} {w : World} {b n : Nat} {f : List UInt8 → Option α}
theorem MapF.made (r:Rdr α) (w:World):MapF r (w.alloc (.map #[] 0)) w.heap.size 0 (fun _=>none):=⟨_,World.ownsMap_made w _ _ _,fun k=>⟨rfl,fun z=>rfl⟩⟩
theorem MapF.lt (h:MapF r w b n f):b<w.heap.size:=let ⟨_,h1,_⟩:=h;h1.lt
theorem MapF.mono (h:MapF r w b n f) {n':Nat} (hn:n≤n'):MapF r w b n' f:=let ⟨D,h1,h2⟩:=h;⟨D,h1.mono hn,h2⟩
theorem MapF.kept {w':World} {row:Option Nat} (h:MapF r w b n f) (hg:w.grownBy w' row) (hne:some b≠row):MapF r w' b n f:=let ⟨D,h1,h2⟩:=h;⟨D,h1.kept hg hne,h2⟩
theorem MapF.block {w':World} (h:MapF r w b n f) (hb:w'.heap[b]? =w.heap[b]?):MapF r w' b n f:=by
 obtain⟨D,⟨es,c,h0,h3⟩,h2⟩:=h
 exact⟨D,⟨es,c,hb.trans h0,h3⟩,h2⟩
theorem MapF.below {w':World} (h:MapF r w b n f) (hb:Below w.heap.size w w'):MapF r w' b n f:=h.block (hb.block b h.lt)
theorem MapF.upd {w':World} {g:Nat} (h:MapF r w b n f) (hu:Upd w w' g) (hne:b≠g):MapF r w' b n f:=h.block (hu.block b h.lt (fun e=>hne (by injection e)))
theorem elim_getD (x:Option α) (z:α):x.elim (r.enc z) r.enc=r.enc (x.getD z):=by cases x<;>rfl
theorem MapF.look_ok (h:MapF r w b n f) {t e:TypeId} (ht:Tryz.prog.underlying t=some (.map 9 e)) {z0:α} (hz:(zeroValue e).run Tryz.prog w= .ok (r.val z0) w) (k:List UInt8) (hk:k.length≤maxLen):
  (Instr.lookup t (.map (some b)) (.string (byt k)) true).run Tryz.prog w= .ok (.tuple #[r.val ((f k).getD z0),.bool (f k).isSome]) w:=by
 obtain⟨D,h1,h2⟩:=h
 obtain⟨v,ps,hrun,hv⟩:=h1.look_ok txtKey ht hz (r.ok z0) (keyTxt k hk)
 rw[(h2 k).2,elim_getD] at hv
 rw[hrun,r.inv _ _ _ hv,(h2 k).1]
theorem MapF.look (h:MapF r w b n f) {t e:TypeId} (ht:Tryz.prog.underlying t=some (.map 9 e)) {z0:α} (hz:(zeroValue e).run Tryz.prog w= .ok (r.val z0) w) (k:List UInt8) (hk:k.length≤maxLen):
  (Instr.lookup t (.map (some b)) (.string (byt k)) false).run Tryz.prog w= .ok (r.val ((f k).getD z0)) w:=by
 obtain⟨D,h1,h2⟩:=h
 obtain⟨v,ps,hrun,hv⟩:=h1.lookup txtKey ht hz (r.ok z0) (keyTxt k hk)
 rw[(h2 k).2,elim_getD] at hv
 rw[hrun,r.inv _ _ _ hv]
def putF (f:List UInt8→Option α) (k:List UInt8) (v:Option α):List UInt8→Option α:=fun x=>if x=k then v else f x
theorem MapF.store (h:MapF r w b n f) {t e:TypeId} (ht:Tryz.prog.underlying t=some (.map 9 e)) (hn:n<maxLen) (k:List UInt8) (hk:k.length≤maxLen) (x:α):
  ∃w',(Instr.mapUpdate t (.map (some b)) (.string (byt k)) (r.val x)).run Tryz.prog w= .ok () w'∧MapF r w' b (n+1) (putF f k (some x))∧Upd w w' b∧w'.heap.size=w.heap.size:=by
 obtain⟨D,h1,h2⟩:=h
 obtain⟨w',hrun,h3,h4⟩:=h1.store txtKey ht hn (keyTxt k hk) (r.ok x)
 have hm:=h1.isMap
 refine⟨w',hrun,⟨_,h3,fun y=> ?_⟩,h4.grown,?_⟩
 ·unfold putF
  by_cases e:y=k
  ·subst e
   rw[if_pos rfl]
   exact⟨has_put_same (k:= .string y) hm trivial _,fun z=>atKey_put_same (k:= .string y) hm trivial _ z⟩
  ·rw[if_neg e]
   have hne:(Lit.string y)≠ .string k:=fun h=>e (by injection h)
   rw[has_put_other hne]
   exact⟨(h2 y).1,fun z=>by rw[atKey_put_other hne];exact (h2 y).2 z⟩
 ·obtain⟨es,c,es',c',_,rfl⟩:=h4
  simp[setBlock]
theorem MapF.drop (h:MapF r w b n f) {t e:TypeId} (ht:Tryz.prog.underlying t=some (.map 9 e)) (k:List UInt8) (hk:k.length≤maxLen) (ty:TypeId):
  ∃w',(Builtin.delete_ #[t,9] ty #[.map (some b),.string (byt k)]).run Tryz.prog w= .ok (.tuple #[]) w'∧MapF r w' b n (putF f k none)∧Upd w w' b∧w'.heap.size=w.heap.size:=by
 obtain⟨D,h1,h2⟩:=h
 obtain⟨w',hrun,h3,h4⟩:=h1.drop txtKey ht (keyTxt k hk) ty
 refine⟨w',hrun,⟨_,h3,fun y=> ?_⟩,h4.grown,?_⟩
 ·unfold putF
  by_cases e:y=k
  ·subst e
   rw[if_pos rfl]
   exact⟨has_del_same,fun z=>atKey_del_same z⟩
  ·rw[if_neg e]
   have hne:(Lit.string y)≠ .string k:=fun h=>e (by injection h)
   rw[has_del_other hne]
   exact⟨(h2 y).1,fun z=>by rw[atKey_del_other hne];exact (h2 y).2 z⟩
 ·obtain⟨es,c,es',c',_,rfl⟩:=h4
  simp[setBlock]
theorem MapF.clear (h:MapF r w b n f) {t e:TypeId} (ht:Tryz.prog.underlying t=some (.map 9 e)) (ty:TypeId):
  ∃w',(Builtin.clear_ #[t] ty #[.map (some b)]).run Tryz.prog w= .ok (.tuple #[]) w'∧MapF r w' b 0 (fun _=>none)∧Upd w w' b∧w'.heap.size=w.heap.size:=by
 obtain⟨D,⟨es,c,hb,_⟩,_⟩:=h
 have hrun:(Builtin.clear_ #[t] ty #[.map (some b)]).run Tryz.prog w= .ok (.tuple #[]) (setBlock w b (.map #[] c)):=by
  simp[Builtin.clear_,run_underlying ht,MapKept.run_getObj_map hb,MapKept.run_setObj_map _ hb,Result.andThen]
  rfl
 refine⟨_,hrun,?_,?_,?_⟩
 ·exact⟨.map [],⟨#[],c,heap_setBlock_same hb _,⟨by simp,stamped_empty c,by simp⟩,Nat.le_refl _,rfl⟩,fun k=>⟨rfl,fun z=>rfl⟩⟩
 ·exact⟨rfl,rfl,rfl,by simp[setBlock],fun i _ hi=>heap_setBlock_other hb _ (fun e=>hi (by rw[e]))⟩
 ·simp[setBlock]
end
section
variable {α : Type} {r : Rdr α} {w : World} {b n : Nat} {f : List UInt8 → Option α} {ops : Array Oper} {rest : List Oper} {o : Oper} {a : Act} {Q : Exit → Act → World → Prop}
theorem wpList_mapf_store (hg:o.guard=none) (m x v:Operand) (t:TypeId) (hop:o.op=Op.mapUpdate t m x v) (e:TypeId) (ht:Tryz.prog.underlying t=some (.map 9 e)) (h:MapF r w b n f) (hm:a.eval m= .map (some b)) (hn:n<maxLen)
  (k:List UInt8) (hk:k.length≤maxLen) (hx:a.eval x= .string (byt k)) (y:α) (hv:a.eval v=r.val y)
  (hK:∀w',MapF r w' b (n+1) (putF f k (some y))→Upd w w' b→w'.heap.size=w.heap.size→wpList Tryz.prog ops Q rest (a.put o.dst undef) w'):wpList Tryz.prog ops Q (o :: rest) a w:=by
 refine wpList_plain hg fun K' hK'=> ?_
 obtain⟨w',hrun,r1,r2,r3⟩:=h.store ht hn k hk y
 unfold Oper.wp
 simp[execOp,hop,hm,hx,hv,hrun,Result.andThen]
 exact hK' _ _ (hK w' r1 r2 r3)
end
end Go.Proofs.YtflmjbmdmoifhaaGreatDoor
