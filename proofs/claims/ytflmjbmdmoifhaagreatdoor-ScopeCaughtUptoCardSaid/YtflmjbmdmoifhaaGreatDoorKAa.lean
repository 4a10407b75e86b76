/-
  Texts that the law leans on: Unt, Lex, Par, LexT, LexQ, Wri, PlB. Conditions: as each says.
-/
import Derived.OrdersHeld
import Derived.Deep.RegionHeld
import Derived.Lib.ItoaNum
import Derived.Lib.IndexMore
import Derived.Lib.Strings
import Derived.Lib.Hide
set_option linter.unusedSimpArgs false
set_option linter.unusedVariables false
namespace Go
theorem sq {α:Type}:(∀(xs:List α) (i:Nat) (h:i<xs.toArray.size),xs.toArray[i]=xs[i]'(by simpa using h))∧(∀(a:α) (ar:List α) (i:Nat) (h:i+1<(a :: ar).length),(a :: ar)[i+1]=ar[i]'(by simpa using h))∧(∀(a:α) (ar:List α) (h:0<(a :: ar).length),(a :: ar)[0]=a)∧(∀(xs:List α) (i:Nat) (v:α),xs.toArray.setIfInBounds i v=(xs.set i v).toArray)∧(∀(a:α) (ar:List α) (v:α),(a :: ar).set 0 v=v :: ar)∧(∀(a:α) (ar:List α) (i:Nat) (v:α),(a :: ar).set (i+1) v=a :: ar.set i v):=⟨fun _ _ _=>List.getElem_toArray ..,fun _ _ _ _=>rfl,fun _ _ _=>rfl,fun _ _ _=>List.setIfInBounds_toArray ..,fun _ _ _=>rfl,fun _ _ _ _=>rfl⟩
theorem ln {α:Type}:(∀(a b:List α),(a++b).length=a.length+b.length)∧(∀(a:α) (l:List α),(a :: l).length=l.length+1)∧([]:List α).length=0:=⟨fun _ _=>List.length_append,fun _ _=>rfl,rfl⟩
theorem bn {α:Type} [BEq α] [LawfulBEq α] {a b:α} (h:¬a=b):(a==b)=false:=beq_eq_false_iff_ne.2 h
end Go
namespace Go.Proofs.YtflmjbmdmoifhaaGreatDoor
open Go.Lib (hid)
section
variable {P : Program} {ops : Array Oper} {Q : Exit → Act → World → Prop} {md : Region.Mode} {m : Nat} {S : World → Prop}
def wpAnyU (P:Program) (md:Region.Mode) (ops:Array Oper) (Q:Exit→Act→World→Prop) (m:Nat) (S:World→Prop):Nat→Array Bool→Act→World→Prop
 | 0,listed,a,w=>Region.ready md ops listed=[]∧Q .normal a w
 | fuel+1,listed,a,w=>
  (Region.ready md ops listed=[]→Q .normal a w)∧
  ∀i∈Region.ready md ops listed,wpOp P ops Q i (fun a' w'=>((listed.setIfInBounds i true).getD m false=true∨S w')∧wpAnyU P md ops Q m S fuel (listed.setIfInBounds i true) a' w') a w
theorem wpAny_of_U:∀(fuel:Nat) (listed:Array Bool) (a:Act) (w:World),wpAnyU P md ops Q m S fuel listed a w→wpAny P md ops Q fuel listed a w
 | 0,_,_,_,h=>h
 | fuel+1,_,_,_,h=>⟨h.1,fun i hi=>wpOp_mono (fun a' w' h'=>wpAny_of_U fuel _ a' w' h'.2) (h.2 i hi)⟩
def waitsFor (md:Region.Mode) (ops:Array Oper) (m i:Nat):Bool:=match ops[m]? with
 | some o=>o.after.any fun e=>Region.binds md e&&e.on==i
 | none=>false
theorem notReady {listed:Array Bool} {i:Nat} (hm:waitsFor md ops m i=true) (hi:listed.getD i true=false):m∉Region.ready md ops listed:=by
 intro h
 obtain⟨_,o,ho,hall⟩:=mem_ready.1 h
 unfold waitsFor at hm
 rw[ho] at hm
 simp only[Array.any_eq_true',Bool.and_eq_true,beq_iff_eq,List.any_eq_true] at hm
 obtain⟨e,he,hb,hei⟩:=hm
 have h1:=hall e he hb
 rw[hei] at h1
 rcases Nat.lt_or_ge i listed.size with h' | h'
 ·simp[h'] at hi h1;rw[hi] at h1;cases h1
 ·simp[Array.getElem?_eq_none h'] at h1
theorem getD_ne {l:Array Bool} {j:Nat} (h:j≠m):(l.setIfInBounds j true).getD m false=l.getD m false:=by
 simp only[Array.getD_eq_getD_getElem?,Array.getElem?_setIfInBounds_ne h]
theorem wpAnyU_first {i:Nat} {oi:Oper} {v:Value} (hi:ops[i]? =some oi) (hsel:∀(j:Nat) (o:Oper) cs b,ops[j]? =some o→o.op≠ .select cs b)
  (hQ:∀c a w,Q (.panic c) (a.put oi.dst v) w→Q (.panic c) a w) (hm:waitsFor md ops m i=true):
  ∀(fuel:Nat) (listed:Array Bool) (a:Act) (w:World),listed.getD m false=false→
   (∀j oj,ops[j]? =some oj→j≠i→listed.getD j true=false→(∀e∈oj.after,Region.binds md e=true→e.on≠i)→oi.apart ops oj=true)→
   i∈Region.ready md ops listed→YieldsIf P ops S oi v a→S w→
   wpAnyU P md ops Q m S fuel (listed.setIfInBounds i true) (a.put oi.dst v) w→wpAnyU P md ops Q m S (fuel+1) listed a w:=by
 intro fuel
 induction fuel with
 | zero=>
  intro listed a w _ _ hr hy hS H
  refine⟨fun h=>(by rw[h] at hr;cases hr),fun j hj=> ?_⟩
  by_cases hji:j=i
  ·subst hji;exact hy.wpOp hi hS ⟨.inr hS,H⟩
  ·have:=ready_mono hj hji
   rw[H.1] at this
   cases this
 | succ fuel ih=>
  intro listed a w hlm hfree hr hy hS H
  refine⟨fun h=>(by rw[h] at hr;cases hr),fun j hj=> ?_⟩
  by_cases hji:j=i
  ·subst hji;exact hy.wpOp hi hS ⟨.inr hS,H⟩
  ·have hjm:j≠m:=fun e=>notReady hm (mem_ready.1 hr).1 (e ▸ hj)
   have him:i≠m:=fun e=>by
    have h:=hm
    rw[←e] at h
    exact notReady h (mem_ready.1 hr).1 hr
   have h1:=H.2 j (ready_mono hj hji)
   obtain⟨hjun,oj,hoj,hall⟩:=mem_ready.1 hj
   have hnot:∀e∈oj.after,Region.binds md e=true→e.on≠i:=fun e he hb heq=>by
    have h1:=hall e he hb
    have h0:=(mem_ready.1 hr).1
    rw[heq] at h1
    rcases Nat.lt_or_ge i listed.size with h' | h'
    ·simp[h'] at h0 h1;rw[h0] at h1;cases h1
    ·simp[Array.getElem?_eq_none h'] at h1
   have h2:=wpOp_putIf hoj (hfree j oj hoj hji hjun hnot) (fun cs b=>hsel i oi cs b hi) (fun cs b=>hsel j oj cs b hoj) hQ hy h1
   have hfree':∀k ok,ops[k]? =some ok→k≠i→(listed.setIfInBounds j true).getD k true=false→
     (∀e∈ok.after,Region.binds md e=true→e.on≠i)→oi.apart ops ok=true:=fun k ok hk hki hun hno=>by
    refine hfree k ok hk hki ?_ hno
    by_cases hjk:j=k
    ·subst hjk;exact hjun
    ·rw[getD_set_ne true hjk] at hun;exact hun
   have hlm':(listed.setIfInBounds j true).getD m false=false:=by rw[getD_ne hjm];exact hlm
   have hlm2:((listed.setIfInBounds i true).setIfInBounds j true).getD m false=false:=by rw[getD_ne hjm,getD_ne him];exact hlm
   refine wpOp_mono (fun a' w' h3=> ?_) h2
   have hS':S w':=h3.2.1.resolve_left (by rw[hlm2];simp)
   refine⟨.inr hS',ih (listed.setIfInBounds j true) a' w' hlm' hfree' (ready_mono hr (Ne.symm hji)) h3.1 hS' ?_⟩
   rw[Array.setIfInBounds_comm _ _ hji]
   exact h3.2.2
theorem wpAnyU_takeY {i:Nat} {oi:Oper} {v:Value} (him:i≠m) (hi:ops[i]? =some oi) (hse:Region.noSelect ops=true)
  (hQ:∀c a w,Q (.panic c) (a.put oi.dst v) w→Q (.panic c) a w):
  ∀{fuel:Nat} {listed:Array Bool} {a:Act} {w:World},
   Region.free md ops listed i=true→
   (Region.ready md ops listed).contains i=true→YieldsIf P ops (fun _=>True) oi v a→(listed.getD m false=true∨S w)→
   wpAnyU P md ops Q m S fuel (listed.setIfInBounds i true) (a.put oi.dst v) w→wpAnyU P md ops Q m S (fuel+1) listed a w:=by
 have hsel:=Region.noSelect_spec hse
 suffices G:∀(fuel:Nat) (listed:Array Bool) (a:Act) (w:World),
   (∀j oj,ops[j]? =some oj→j≠i→listed.getD j true=false→(∀e∈oj.after,Region.binds md e=true→e.on≠i)→oi.apart ops oj=true)→
   i∈Region.ready md ops listed→YieldsIf P ops (fun _=>True) oi v a→(listed.getD m false=true∨S w)→
   wpAnyU P md ops Q m S fuel (listed.setIfInBounds i true) (a.put oi.dst v) w→wpAnyU P md ops Q m S (fuel+1) listed a w from
  fun {fuel listed a w} hf hr=>G fuel listed a w (Region.free_spec hi hf) (by simpa using hr)
 intro fuel
 induction fuel with
 | zero=>
  intro listed a w _ hr hy hS H
  refine⟨fun h=>(by rw[h] at hr;cases hr),fun j hj=> ?_⟩
  by_cases hji:j=i
  ·subst hji;exact hy.wpOp hi trivial ⟨by rw[getD_ne him];exact hS,H⟩
  ·have:=ready_mono hj hji
   rw[H.1] at this
   cases this
 | succ fuel ih=>
  intro listed a w hfree hr hy hS H
  refine⟨fun h=>(by rw[h] at hr;cases hr),fun j hj=> ?_⟩
  by_cases hji:j=i
  ·subst hji;exact hy.wpOp hi trivial ⟨by rw[getD_ne him];exact hS,H⟩
  ·have h1:=H.2 j (ready_mono hj hji)
   obtain⟨hjun,oj,hoj,hall⟩:=mem_ready.1 hj
   have hnot:∀e∈oj.after,Region.binds md e=true→e.on≠i:=fun e he hb heq=>by
    have h1:=hall e he hb
    have h0:=(mem_ready.1 hr).1
    rw[heq] at h1
    rcases Nat.lt_or_ge i listed.size with h' | h'
    ·simp[h'] at h0 h1;rw[h0] at h1;cases h1
    ·simp[Array.getElem?_eq_none h'] at h1
   have h2:=wpOp_putIf hoj (hfree j oj hoj hji hjun hnot) (fun cs b=>hsel i oi cs b hi) (fun cs b=>hsel j oj cs b hoj) hQ hy h1
   have hfree':∀k ok,ops[k]? =some ok→k≠i→(listed.setIfInBounds j true).getD k true=false→
     (∀e∈ok.after,Region.binds md e=true→e.on≠i)→oi.apart ops ok=true:=fun k ok hk hki hun hno=>by
    refine hfree k ok hk hki ?_ hno
    by_cases hjk:j=k
    ·subst hjk;exact hjun
    ·rw[getD_set_ne true hjk] at hun;exact hun
   refine wpOp_mono (fun a' w' h3=> ?_) h2
   have hS':(listed.setIfInBounds j true).getD m false=true∨S w':=by
    have h4:=h3.2.1
    rw[Array.setIfInBounds_comm _ _ (Ne.symm hji),getD_ne him] at h4
    exact h4
   refine⟨hS',ih (listed.setIfInBounds j true) a' w' hfree' (ready_mono hr (Ne.symm hji)) h3.1 hS' ?_⟩
   rw[Array.setIfInBounds_comm _ _ hji]
   exact h3.2.2
theorem wpAnyU_take {i:Nat} {oi:Oper} {v:Value} {fuel:Nat} {listed:Array Bool} {a:Act} {w:World} (hi:ops[i]? =some oi) (hm:waitsFor md ops m i=true) (hl:listed.getD m false=false)
  (hs:Region.noSelect ops=true) (hf:Region.free md ops listed i=true) (hr:(Region.ready md ops listed).contains i=true)
  (hQ:∀c a w,Q (.panic c) (a.put oi.dst v) w→Q (.panic c) a w) (hy:YieldsIf P ops S oi v a) (hS:S w)
  (h:wpAnyU P md ops Q m S fuel (listed.setIfInBounds i true) (a.put oi.dst v) w):wpAnyU P md ops Q m S (fuel+1) listed a w:=
 wpAnyU_first hi (Region.noSelect_spec hs) hQ hm fuel listed a w hl (Region.free_spec hi hf) (by simpa using hr) hy hS h
theorem wpAnyU_done {listed:Array Bool} {a:Act} {w:World} (hr:Region.ready md ops listed=[]) (h:Q .normal a w):
  ∀fuel,wpAnyU P md ops Q m S fuel listed a w
 | 0=>⟨hr,h⟩
 | _+1=>⟨fun _=>h,by rw[hr];simp⟩
def AllReadyU (P:Program) (md:Region.Mode) (ops:Array Oper) (Q:Exit→Act→World→Prop) (m:Nat) (S:World→Prop) (fuel:Nat) (listed:Array Bool) (a:Act) (w:World) (rs:List Nat):Prop:=
 ∀i∈rs,wpOp P ops Q i (fun a' w'=>((listed.setIfInBounds i true).getD m false=true∨S w')∧wpAnyU P md ops Q m S fuel (listed.setIfInBounds i true) a' w') a w
theorem AllReadyU.nil {fuel:Nat} {listed:Array Bool} {a:Act} {w:World}:AllReadyU P md ops Q m S fuel listed a w []:=fun _ h=>by cases h
theorem AllReadyU.cons {fuel:Nat} {listed:Array Bool} {a:Act} {w:World} {i:Nat} {o:Oper} {rs:List Nat} (ho:ops[i]? =some o)
  (h:∀K':Act→World→Prop,Shut (∀a w,((listed.setIfInBounds i true).getD m false=true∨S w)→(((listed.setIfInBounds i true).getD m false=true∨S w)→wpAnyU P md ops Q m S fuel (listed.setIfInBounds i true) a w)→K' a w)→if Region.wanted o (yielded ops a.tmps)=true then Oper.wp P o a w K' Q else K' (a.put o.dst undef) w)
  (hs:AllReadyU P md ops Q m S fuel listed a w rs):AllReadyU P md ops Q m S fuel listed a w (i :: rs):=fun j hj=>by
 rcases List.mem_cons.1 hj with rfl | hj
 ·exact wpOp_step ho (fun K' hK=>h K' (fun a w hS hW=>hK a w ⟨hS,hW hS⟩))
 ·exact hs j hj
theorem wpAnyU_ready {rs:List Nat} {fuel:Nat} {listed:Array Bool} {a:Act} {w:World} (hr:Region.ready md ops listed=rs) (hne:rs≠[])
  (h:AllReadyU P md ops Q m S fuel listed a w rs):wpAnyU P md ops Q m S (fuel+1) listed a w:=
 ⟨fun h0=>absurd (hr ▸ h0) hne,hr ▸ h⟩
theorem wp_region_until {id:Nat} {a:Act} {w:World} (m:Nat) (S:World→Prop) (hm:P.follows .mixedOrders=true) (hS:S w.drew)
  (h:S w.drew→wpAnyU P .any ops Q m S ops.size (Array.replicate ops.size false) a w.drew):(Code.region id ops true).wp P Q a w:=
 wp_region_any hm (wpAny_of_U _ _ _ _ (h hS))
end
end Go.Proofs.YtflmjbmdmoifhaaGreatDoor
namespace Go.Proofs.YtflmjbmdmoifhaaGreatDoor
open Go.Lib (hid)
section
variable {P : Program} {ops : Array Oper} {Q : Exit → Act → World → Prop} {md : Region.Mode} {m : Nat} {S : World → Prop} {fuel : Nat} {listed : Array Bool} {a : Act} {w : World}
theorem rdU (i:Nat) {o:Oper} (ho:ops[i]? =some o)
    (h:∀K':Act→World→Prop,Shut (∀a w,((listed.setIfInBounds i true).getD m false=true∨S w)→(((listed.setIfInBounds i true).getD m false=true∨S w)→wpAnyU P md ops Q m S fuel (listed.setIfInBounds i true) a w)→K' a w)→if Region.wanted o (yielded ops a.tmps)=true then Oper.wp P o a w K' Q else K' (a.put o.dst undef) w)
    (hr:Region.ready md ops listed=[i]:=by kernel_rfl):wpAnyU P md ops Q m S (fuel+1) listed a w:=wpAnyU_ready hr (by simp) (AllReadyU.cons ho h AllReadyU.nil)
theorem rdH (i:Nat) {o:Oper} (ho:ops[i]? =some o)
    (h:∀K':Act→World→Prop,Shut (∀a w,S w→(S w→wpAnyH P md ops Q S fuel (listed.setIfInBounds i true) a w)→K' a w)→if Region.wanted o (yielded ops a.tmps)=true then Oper.wp P o a w K' Q else K' (a.put o.dst undef) w)
    (hr:Region.ready md ops listed=[i]:=by kernel_rfl):wpAnyH P md ops Q S (fuel+1) listed a w:=wpAnyH_ready hr (by simp) (AllReadyH.cons ho h AllReadyH.nil)
theorem tU {i:Nat} {v:Value} {oi:Oper} (hi:ops[i]? =some oi) (hy:∀w,True→(execOp a.eval oi).run P w= .ok (.value v) w) (hS:listed.getD m false=true∨S w) (h:wpAnyU P md ops Q m S fuel (listed.setIfInBounds i true) (a.put oi.dst v) w)
    (hw:Region.wanted oi (yielded ops a.tmps)=true:=by kernel_rfl) (him:i≠m:=by decide) (hse:Region.noSelect ops=true:=by kernel_rfl) (hQ:∀c a w,Q (.panic c) (a.put oi.dst v) w→Q (.panic c) a w:=by exact fun _ _ _ h=>h) (hf:Region.free md ops listed i=true:=by kernel_rfl) (hr:(Region.ready md ops listed).contains i=true:=by kernel_rfl):wpAnyU P md ops Q m S (fuel+1) listed a w:=
  wpAnyU_takeY him hi hse hQ hf hr (Or.inl ⟨hw,hy⟩) hS h
theorem tV {i:Nat} {v:Value} {oi:Oper} (hi:ops[i]? =some oi) (hy:∀w,S w→(execOp a.eval oi).run P w= .ok (.value v) w) (hS:S w) (h:wpAnyU P md ops Q m S fuel (listed.setIfInBounds i true) (a.put oi.dst v) w)
    (hw:Region.wanted oi (yielded ops a.tmps)=true:=by kernel_rfl) (hm:waitsFor md ops m i=true:=by kernel_rfl) (hl:listed.getD m false=false:=by kernel_rfl) (hse:Region.noSelect ops=true:=by kernel_rfl) (hQ:∀c a w,Q (.panic c) (a.put oi.dst v) w→Q (.panic c) a w:=by exact fun _ _ _ h=>h) (hf:Region.free md ops listed i=true:=by kernel_rfl) (hr:(Region.ready md ops listed).contains i=true:=by kernel_rfl):wpAnyU P md ops Q m S (fuel+1) listed a w:=
  wpAnyU_take hi hm hl hse hf hr hQ (Or.inl ⟨hw,hy⟩) hS h
theorem tH {i:Nat} {v:Value} {oi:Oper} (hi:ops[i]? =some oi) (hy:∀w,S w→(execOp a.eval oi).run P w= .ok (.value v) w) (hS:S w) (h:wpAnyH P md ops Q S fuel (listed.setIfInBounds i true) (a.put oi.dst v) w)
    (hw:Region.wanted oi (yielded ops a.tmps)=true:=by kernel_rfl) (hse:Region.noSelect ops=true:=by kernel_rfl) (hf:Region.free md ops listed i=true:=by kernel_rfl) (hr:(Region.ready md ops listed).contains i=true:=by kernel_rfl) (hQ:∀c a w,Q (.panic c) (a.put oi.dst v) w→Q (.panic c) a w:=by exact fun _ _ _ h=>h):wpAnyH P md ops Q S (fuel+1) listed a w:=
  wpAnyH_take hi hse hf hr hQ (Or.inl ⟨hw,hy⟩) hS h
end
end Go.Proofs.YtflmjbmdmoifhaaGreatDoor
namespace Lexy
abbrev Bs:=List UInt8
def isLetter (c:UInt8):Bool:=(decide (97≤c.toNat)&&decide (c.toNat≤122))||(decide (65≤c.toNat)&&decide (c.toNat≤90))||c==95
def isDigit (c:UInt8):Bool:=decide (48≤c.toNat)&&decide (c.toNat≤57)
def isNameB (c:UInt8):Bool:=isLetter c||isDigit c
def isBlank (c:UInt8):Bool:=c==32||c==9||c==10||c==13
def skp:Bool→Bs→Nat
 | _,[]=>0
 | true,c :: r=>if c==10 then 1+skp false r else 1+skp true r
 | false,c :: r=>if isBlank c then 1+skp false r else if c==47&&r.head? ==some 47 then 1+skp true r else 0
structure Tk where
 kind:Nat
 text:Bs
 num:Nat
 deriving DecidableEq
structure Tok extends Tk where
 lo:Nat
 hi:Nat
 deriving DecidableEq
inductive Res (α:Type) where
 | err (e:Nat)
 | ok (a:α)
 deriving DecidableEq
def kws:List Bs:=[[108,101,116],[102,110],[105,102],[101,108,115,101],[119,104,105,108,101],[102,111,114],[111,102],[114,101,116,117,114,110],[98,114,101,97,107],[99,111,110,116,105,110,117,101],[116,104,114,111,119],[116,114,121],[99,97,116,99,104],[102,105,110,97,108,108,121],[116,114,117,101],[102,97,108,115,101],[110,117,108,108]]
def signs:List Bs:=[[61,61],[33,61],[60,61],[62,61],[38,38],[124,124],[61],[33],[60],[62],[43],[45],[42],[47],[37],[40],[41],[91],[93],[123],[125],[44],[59],[58],[46],[63]]
def numF:Nat→Bs→Option Nat
 | n,[]=>some n
 | n,c :: r=>if 9007199254740992<10 * n+(c.toNat - 48) then none else numF (10 * n+(c.toNat - 48)) r
def hexv (c:UInt8):Option UInt8:=
 if 48≤c.toNat∧c.toNat≤57 then some (c - 48) else if 97≤c.toNat∧c.toNat≤102 then some (c - 87) else none
def esc:Bs→Option (UInt8×Nat)
 | []=>none
 | c :: r=>if c==34||c==92 then some (c,1) else if c==110 then some (10,1) else if c==116 then some (9,1)
  else if c==120 then match r with
   | a :: b :: _=>match hexv a,hexv b with
    | some x,some y=>some (x * 16+y,3)
    | _,_=>none
   | _=>none
  else none
def txtF:Nat→Bs→Option (Bs×Nat)
 | 0,_=>none
 | _,[]=>none
 | f+1,c :: r=>
  if c==34 then some ([],1)
  else if c.toNat<32 then none
  else if c==92 then
   match esc r with
   | none=>none
   | some (b,n)=>match txtF f (r.drop n) with
    | none=>none
    | some (t,m)=>some (b :: t,1+n+m)
  else match txtF f r with
   | none=>none
   | some (t,m)=>some (c :: t,1+m)
def txt (l:Bs):Option (Bs×Nat):=txtF l.length l
def nameLen (l:Bs):Nat:=(l.takeWhile isNameB).length
def digLen (l:Bs):Nat:=(l.takeWhile isDigit).length
def sign (l:Bs):Res (Tk×Nat):=
 if 2≤l.length∧l.take 2∈signs then .ok (⟨4,l.take 2,0⟩,2)
 else if 1≤l.length∧l.take 1∈signs then .ok (⟨4,l.take 1,0⟩,1)
 else .err 4
def next (l:Bs):Res (Tk×Nat):=
 match l with
 | []=> .err 4
 | c :: r=>
  if isLetter c then
   let w:=l.take (nameLen l)
   .ok (⟨if w∈kws then 5 else 1,w,0⟩,nameLen l)
  else if isDigit c then
   match numF 0 (l.take (digLen l)) with
   | none=> .err 2
   | some n=>if ((l.drop (digLen l)).head?.map isLetter).getD false then .err 4 else .ok (⟨2,[],n⟩,digLen l)
  else if c==34 then
   match txt r with
   | none=> .err 4
   | some (t,m)=> .ok (⟨3,t,0⟩,1+m)
  else sign l
def toksR:Nat→Nat→Bs→Res (List Tok)
 | rem,p,l=>
  match l.drop (skp false l) with
  | []=> .ok []
  | c :: r=>match next (c :: r) with
   | .err e=> .err e
   | .ok (t,n)=>match rem with
    | 0=> .err 2
    | rem+1=>match toksR rem (p+skp false l+n) ((c :: r).drop n) with
     | .err e=> .err e
     | .ok ts=> .ok (⟨t,p+skp false l,p+skp false l+n⟩ :: ts)
def toks (l:Bs):Res (List Tok):=if 2000<l.length then .err 2 else toksR 1000 0 l
end Lexy
namespace Lexy
theorem skp_le:∀(b:Bool) (l:Bs),skp b l≤l.length
 | b,[]=>by cases b<;>simp[skp]
 | true,c :: r=>by
  have h1:=skp_le false r
  have h2:=skp_le true r
  simp only[skp,List.length_cons]
  split<;>omega
 | false,c :: r=>by
  have h1:=skp_le false r
  have h2:=skp_le true r
  simp only[skp,List.length_cons]
  split
  ·omega
  ·split<;>omega
theorem skp_idem:∀(b:Bool) (l:Bs),skp false (l.drop (skp b l))=0
 | b,[]=>by cases b<;>simp[skp]
 | true,c :: r=>by
  simp only[skp]
  split
  ·rw[Nat.add_comm,List.drop_succ_cons];exact skp_idem false r
  ·rw[Nat.add_comm,List.drop_succ_cons];exact skp_idem true r
 | false,c :: r=>by
  simp only[skp]
  split
  ·rw[Nat.add_comm,List.drop_succ_cons];exact skp_idem false r
  ·split
   ·rw[Nat.add_comm,List.drop_succ_cons];exact skp_idem true r
   ·rename_i h1 h2
    simp[skp,h1,h2]
end Lexy
namespace Lexy
def Soft (y x:Bs):Prop:=y.head? =x.head? ∨∀c,y.head? =some c→c=10∨c=32
theorem run_swap (p:UInt8→Bool) (hp10:p 10=false) (hp32:p 32=false) {x y:Bs} (h:Soft y x):
  ∀a:Bs,(∀c∈a,p c=true)→(x.head?.all (fun c=> !p c))=true→((a++y).takeWhile p).length=a.length∧(y.head?.all (fun c=> !p c))=true:=by
 intro a ha hx
 have hy:(y.head?.all (fun c=> !p c))=true:=by
  rcases h with h | h
  ·rw[h];exact hx
  ·cases hy:y.head? with
   | none=>rfl
   | some c=>rcases h c hy with rfl | rfl<;>simp[hp10,hp32]
 refine⟨?_,hy⟩
 rw[List.takeWhile_append_of_pos ha]
 cases y with
 | nil=>simp
 | cons c r=>
  simp only[List.head?_cons,Option.all_some,Bool.not_eq_true'] at hy
  simp[hy]
theorem take_tw (p:UInt8→Bool):∀l:Bs,l.take (l.takeWhile p).length=l.takeWhile p
 | []=>by simp
 | c :: r=>by
  simp only[List.takeWhile_cons]
  split
  ·simp[take_tw p r]
  ·simp
theorem drop_tw (p:UInt8→Bool):∀l:Bs,(l.drop (l.takeWhile p).length).head?.all (fun c=> !p c)=true
 | []=>by simp
 | c :: r=>by
  simp only[List.takeWhile_cons]
  split
  ·simpa using drop_tw p r
  ·simp_all
theorem all_tw (p:UInt8→Bool) (l:Bs):∀c∈l.takeWhile p,p c=true:=by
 induction l with
 | nil=>simp
 | cons d r ih=>
  intro c hc
  simp only[List.takeWhile_cons] at hc
  split at hc
  ·rcases List.mem_cons.1 hc with rfl | h
   ·assumption
   ·exact ih c h
  ·cases hc
theorem run_eq (p:UInt8→Bool) {a x:Bs} (h:((a++x).takeWhile p).length=a.length):(∀c∈a,p c=true)∧x.head?.all (fun c=> !p c)=true:=by
 have h1:=take_tw p (a++x)
 rw[h,List.take_left'] at h1
 ·have h2:=drop_tw p (a++x)
  rw[h,List.drop_left'] at h2
  ·refine⟨fun c hc=>all_tw p (a++x) c (h1 ▸ hc),h2⟩
  ·rfl
 ·rfl
theorem name10:isNameB 10=false:=by decide
theorem name32:isNameB 32=false:=by decide
theorem dig10:isDigit 10=false:=by decide
theorem dig32:isDigit 32=false:=by decide
theorem let10:isLetter 10=false:=by decide
theorem let32:isLetter 32=false:=by decide
theorem esc_app {l z:Bs} {b:UInt8} {n:Nat} (h:esc l=some (b,n)):esc (l++z)=some (b,n)∧n≤l.length∧0<n:=by
 cases l with
 | nil=>simp[esc] at h
 | cons c r=>
  simp only[esc,List.cons_append] at h ⊢
  by_cases h1:(c==34||c==92)=true
  ·rw[if_pos h1] at h ⊢;simp at h;obtain⟨rfl,rfl⟩:=h;simp
  rw[if_neg h1] at h ⊢
  by_cases h2:(c==110)=true
  ·rw[if_pos h2] at h ⊢;simp at h;obtain⟨rfl,rfl⟩:=h;simp
  rw[if_neg h2] at h ⊢
  by_cases h3:(c==116)=true
  ·rw[if_pos h3] at h ⊢;simp at h;obtain⟨rfl,rfl⟩:=h;simp
  rw[if_neg h3] at h ⊢
  by_cases h4:(c==120)=true
  ·rw[if_pos h4] at h ⊢
   match r,h with
   | a :: b' :: r',h=>
    simp only[List.cons_append]
    simp only at h
    cases ha:hexv a with
    | none=>rw[ha] at h;simp at h
    | some x=>
     cases hb:hexv b' with
     | none=>rw[ha,hb] at h;simp at h
     | some y=>rw[ha,hb] at h;simp at h;obtain⟨rfl,rfl⟩:=h;simp
  ·rw[if_neg h4] at h;simp at h
theorem txtF_app:∀(f k:Nat) (l z t:Bs) (m:Nat),txtF f l=some (t,m)→txtF (f+k) (l++z)=some (t,m)∧m≤l.length∧0<m:=by
 intro f
 induction f with
 | zero=>intro k l z t m h;simp[txtF] at h
 | succ f ih=>
  intro k l z t m h
  cases l with
  | nil=>simp[txtF] at h
  | cons c r=>
   rw[show f+1+k=(f+k)+1 by omega]
   simp only[txtF,List.cons_append] at h ⊢
   by_cases h1:(c==34)=true
   ·rw[if_pos h1] at h ⊢;simp at h;obtain⟨rfl,rfl⟩:=h;simp
   rw[if_neg h1] at h ⊢
   by_cases h2:c.toNat<32
   ·rw[if_pos h2] at h;simp at h
   rw[if_neg h2] at h ⊢
   by_cases h3:(c==92)=true
   ·rw[if_pos h3] at h ⊢
    cases he:esc r with
    | none=>rw[he] at h;simp at h
    | some bn=>
     obtain⟨b,n⟩:=bn
     obtain⟨e1,e2,e3⟩:=esc_app (z:=z) he
     rw[he] at h
     rw[e1]
     simp only at h ⊢
     cases hr:txtF f (r.drop n) with
     | none=>rw[hr] at h;simp at h
     | some tm=>
      obtain⟨t',m'⟩:=tm
      rw[hr] at h
      simp at h
      obtain⟨rfl,rfl⟩:=h
      obtain⟨i1,i2,i3⟩:=ih k _ z _ _ hr
      rw[List.drop_append_of_le_length e2,i1]
      simp at i2 ⊢
      omega
   ·rw[if_neg h3] at h ⊢
    cases hr:txtF f r with
    | none=>rw[hr] at h;simp at h
    | some tm=>
     obtain⟨t',m'⟩:=tm
     rw[hr] at h
     simp at h
     obtain⟨rfl,rfl⟩:=h
     obtain⟨i1,i2,i3⟩:=ih k _ z _ _ hr
     rw[i1]
     simp
     omega
theorem txtF_take:∀(f:Nat) (l t:Bs) (m:Nat),txtF f l=some (t,m)→txtF m (l.take m)=some (t,m):=by
 intro f
 induction f with
 | zero=>intro l t m h;simp[txtF] at h
 | succ f ih=>
  intro l t m h
  cases l with
  | nil=>simp[txtF] at h
  | cons c r=>
   simp only[txtF] at h
   by_cases h1:(c==34)=true
   ·rw[if_pos h1] at h;simp at h;obtain⟨rfl,rfl⟩:=h;simp[txtF,h1]
   rw[if_neg h1] at h
   by_cases h2:c.toNat<32
   ·rw[if_pos h2] at h;simp at h
   rw[if_neg h2] at h
   by_cases h3:(c==92)=true
   ·rw[if_pos h3] at h
    cases he:esc r with
    | none=>rw[he] at h;simp at h
    | some bn=>
     obtain⟨b,n⟩:=bn
     obtain⟨_,e2,e3⟩:=esc_app (z:=[]) he
     rw[he] at h
     simp only at h
     cases hr:txtF f (r.drop n) with
     | none=>rw[hr] at h;simp at h
     | some tm=>
      obtain⟨t',m'⟩:=tm
      rw[hr] at h
      simp at h
      obtain⟨rfl,rfl⟩:=h
      have i1:=ih _ _ _ hr
      obtain⟨_,i2,i3⟩:=txtF_app _ 0 _ [] _ _ hr
      have hesc:esc (r.take (n+m'))=some (b,n):=by
       have:r.take (n+m')=r.take n++(r.drop n).take m':=by rw[List.take_add]
       rw[this]
       have e:esc (r.take n)=some (b,n):=by
        clear i1 i2 hr
        cases r with
        | nil=>simp[esc] at he
        | cons d q=>
         simp only[esc] at he
         by_cases g1:(d==34||d==92)=true
         ·rw[if_pos g1] at he;simp at he;obtain⟨rfl,rfl⟩:=he;simp only[List.take_succ_cons,esc];rw[if_pos g1]
         rw[if_neg g1] at he
         by_cases g2:(d==110)=true
         ·rw[if_pos g2] at he;simp at he;obtain⟨rfl,rfl⟩:=he;simp only[List.take_succ_cons,esc];rw[if_neg g1,if_pos g2]
         rw[if_neg g2] at he
         by_cases g3:(d==116)=true
         ·rw[if_pos g3] at he;simp at he;obtain⟨rfl,rfl⟩:=he;simp only[List.take_succ_cons,esc];rw[if_neg g1,if_neg g2,if_pos g3]
         rw[if_neg g3] at he
         by_cases g4:(d==120)=true
         ·rw[if_pos g4] at he
          match q,he with
          | a :: b' :: r',he=>
           have hn:n=3:=by
            simp only at he
            cases ha:hexv a with
            | none=>rw[ha] at he;simp at he
            | some x=>
             cases hb:hexv b' with
             | none=>rw[ha,hb] at he;simp at he
             | some y=>rw[ha,hb] at he;simp at he;exact he.2.symm
           subst hn
           simp only[List.take_succ_cons,esc]
           rw[if_neg g1,if_neg g2,if_neg g3,if_pos g4]
           exact he
         ·rw[if_neg g4] at he;simp at he
       exact (esc_app e).1
      rw[show 1+n+m'=(n+m')+1 by omega,List.take_succ_cons]
      simp only[txtF]
      rw[if_neg h1,if_neg h2,if_pos h3,hesc]
      simp only
      have hd:(r.take (n+m')).drop n=(r.drop n).take m':=by rw[List.drop_take];congr 1;omega
      rw[hd]
      have i4:=(txtF_app m' n _ [] _ _ i1).1
      rw[List.append_nil,Nat.add_comm m' n] at i4
      rw[i4]
      simp;omega
   ·rw[if_neg h3] at h
    cases hr:txtF f r with
    | none=>rw[hr] at h;simp at h
    | some tm=>
     obtain⟨t',m'⟩:=tm
     rw[hr] at h
     simp at h
     obtain⟨rfl,rfl⟩:=h
     have i1:=ih _ _ _ hr
     rw[show 1+m'=m'+1 by omega,List.take_succ_cons]
     simp only[txtF]
     rw[if_neg h1,if_neg h2,if_neg h3,i1]
     simp;omega
end Lexy
namespace Lexy
theorem sign2 (c d:UInt8) (hd:d=10∨d=32):[c,d]∉signs:=by
 rcases hd with rfl | rfl<;>simp[signs]
theorem sign_swap {a x y:Bs} {t:Tk} (h:sign (a++x)= .ok (t,a.length)) (hs:Soft y x):sign (a++y)= .ok (t,a.length)∧0<a.length:=by
 unfold sign at h ⊢
 by_cases h2:2≤(a++x).length∧(a++x).take 2∈signs
 ·rw[if_pos h2] at h
  simp only[Res.ok.injEq,Prod.mk.injEq] at h
  obtain⟨rfl,hl⟩:=h
  have e:∀z:Bs,(a++z).take 2=a:=fun z=>by rw[List.take_append_of_le_length (by omega),hl];exact List.take_length
  have hy:2≤(a++y).length∧(a++y).take 2∈signs:=⟨by simp;omega,by rw[e y, ←e x];exact h2.2⟩
  rw[if_pos hy,e y,e x, ←hl]
  simp
 ·rw[if_neg h2] at h
  by_cases h1:1≤(a++x).length∧(a++x).take 1∈signs
  ·rw[if_pos h1] at h
   simp only[Res.ok.injEq,Prod.mk.injEq] at h
   obtain⟨rfl,hl⟩:=h
   match a,hl with
   | [c],_=>
    have hn:¬(2≤([c]++y).length∧([c]++y).take 2∈signs):=by
     rintro⟨hy1,hy2⟩
     cases y with
     | nil=>simp at hy1
     | cons d r=>
      rcases hs with hs | hs
      ·cases x with
       | nil=>simp at hs
       | cons d' r'=>
        simp at hs
        subst hs
        exact h2 ⟨by simp,by simpa using hy2⟩
      ·exact sign2 c d (hs d rfl) (by simpa using hy2)
    rw[if_neg hn,if_pos ⟨by simp,by simpa using h1.2⟩]
    simp
  ·rw[if_neg h1] at h
   cases h
theorem next_swap {a x y:Bs} {t:Tk} (h:next (a++x)= .ok (t,a.length)) (hs:Soft y x):next (a++y)= .ok (t,a.length)∧0<a.length:=by
 cases a with
 | nil=>
  exfalso
  cases x with
  | nil=>simp[next] at h
  | cons c r=>
   simp only[List.nil_append,next] at h
   by_cases h1:isLetter c=true
   ·rw[if_pos h1] at h
    simp[nameLen,isNameB,h1] at h
   rw[if_neg h1] at h
   by_cases h2:isDigit c=true
   ·rw[if_pos h2] at h
    split at h
    ·cases h
    ·split at h
     ·cases h
     ·simp[digLen,h2] at h
   rw[if_neg h2] at h
   by_cases h3:(c==34)=true
   ·rw[if_pos h3] at h
    split at h
    ·cases h
    ·simp only[Res.ok.injEq,Prod.mk.injEq,List.length_nil] at h;omega
   rw[if_neg h3] at h
   have:=(sign_swap (a:=[]) (x:=c :: r) (y:=c :: r) h (.inl rfl)).2
   simp at this
 | cons c r=>
  refine⟨?_,by simp⟩
  have happ:∀z,(c :: r)++z=c :: (r++z):=fun z=>rfl
  rw[happ] at h ⊢
  simp only[next] at h ⊢
  by_cases h1:isLetter c=true
  ·rw[if_pos h1] at h ⊢
   simp only[Res.ok.injEq,Prod.mk.injEq] at h
   obtain⟨ht,hl⟩:=h
   have hr:=run_eq isNameB (a:=c :: r) (x:=x) hl
   have hz:=run_swap isNameB name10 name32 hs (c :: r) hr.1 hr.2
   have hy:nameLen (c :: (r++y))=(c :: r).length:=hz.1
   rw[hy]
   rw[hl] at ht
   have e:∀z,List.take (c :: r).length (c :: (r++z))=c :: r:=fun z=>by rw[←happ];exact List.take_left' rfl
   rw[e] at ht ⊢
   rw[ht]
  rw[if_neg h1] at h ⊢
  by_cases h2:isDigit c=true
  ·rw[if_pos h2] at h ⊢
   have e:∀z,List.take (c :: r).length (c :: (r++z))=c :: r:=fun z=>by rw[←happ];exact List.take_left' rfl
   have ed:∀z,List.drop (c :: r).length (c :: (r++z))=z:=fun z=>by rw[←happ];exact List.drop_left' rfl
   have hl:digLen (c :: (r++x))=(c :: r).length:=by
    split at h
    ·cases h
    ·split at h
     ·cases h
     ·simp only[Res.ok.injEq,Prod.mk.injEq] at h;exact h.2
   have hr:=run_eq isDigit (a:=c :: r) (x:=x) hl
   have hz:=run_swap isDigit dig10 dig32 hs (c :: r) hr.1 hr.2
   have hy:digLen (c :: (r++y))=(c :: r).length:=hz.1
   rw[hy]
   rw[hl] at h
   rw[e,ed] at h ⊢
   cases hn:numF 0 (c :: r) with
   | none=>rw[hn] at h;cases h
   | some n=>
    rw[hn] at h
    simp only at h ⊢
    by_cases hx:(x.head?.map isLetter).getD false=true
    ·rw[if_pos hx] at h;cases h
    ·rw[if_neg hx] at h
     have hy:¬(y.head?.map isLetter).getD false=true:=by
      rcases hs with hs | hs
      ·rw[hs];exact hx
      ·cases hc:y.head? with
       | none=>simp
       | some d=>rcases hs d hc with rfl | rfl<;>simp[let10,let32]
     rw[if_neg hy]
     exact h
  rw[if_neg h2] at h ⊢
  by_cases h3:(c==34)=true
  ·rw[if_pos h3] at h ⊢
   cases hx:txt (r++x) with
   | none=>rw[hx] at h;cases h
   | some tm=>
    obtain⟨t',m⟩:=tm
    rw[hx] at h
    simp only[Res.ok.injEq,Prod.mk.injEq,List.length_cons] at h
    obtain⟨rfl,hm⟩:=h
    obtain rfl:m=r.length:=by omega
    have i1:=txtF_take _ _ _ _ hx
    rw[List.take_left' rfl] at i1
    have i2:=(txtF_app _ ((r++y).length - r.length) _ y _ _ i1).1
    have hy:txt (r++y)=some (t',r.length):=by
     unfold txt
     rw[show (r++y).length=r.length+((r++y).length - r.length) by simp]
     exact i2
    rw[hy]
    simp only[List.length_cons,Nat.add_comm]
  rw[if_neg h3] at h ⊢
  exact (sign_swap (a:=c :: r) h hs).1
theorem sign_len {l:Bs} {t:Tk} {n:Nat} (h:sign l= .ok (t,n)):n≤l.length:=by
 unfold sign at h
 split at h
 ·simp at h;omega
 ·split at h
  ·simp at h;omega
  ·cases h
theorem next_len {l:Bs} {t:Tk} {n:Nat} (h:next l= .ok (t,n)):n≤l.length:=by
 cases l with
 | nil=>simp[next] at h
 | cons c r=>
  simp only[next] at h
  split at h
  ·simp only[Res.ok.injEq,Prod.mk.injEq] at h
   rw[←h.2]
   exact List.Sublist.length_le (List.takeWhile_sublist _)
  ·split at h
   ·split at h
    ·cases h
    ·split at h
     ·cases h
     ·simp only[Res.ok.injEq,Prod.mk.injEq] at h
      rw[←h.2]
      exact List.Sublist.length_le (List.takeWhile_sublist _)
   ·split at h
    ·split at h
     ·cases h
     ·rename_i htx
      simp only[Res.ok.injEq,Prod.mk.injEq] at h
      have:=(txtF_app _ 0 _ [] _ _ htx).2.1
      simp;omega
    ·exact sign_len h
theorem next_split {l:Bs} {t:Tk} {n:Nat} (h:next l= .ok (t,n)):l=l.take n++l.drop n∧(l.take n).length=n∧0<n∧∀y,Soft y (l.drop n)→next (l.take n++y)= .ok (t,n):=by
 have hn:=next_len h
 have hl:(l.take n).length=n:=by simp;omega
 have h0:next (l.take n++l.drop n)= .ok (t,(l.take n).length):=by rw[List.take_append_drop,hl];exact h
 refine⟨(List.take_append_drop n l).symm,hl,?_,fun y hy=> ?_⟩
 ·have:=(next_swap h0 (.inl rfl)).2;omega
 ·have:=(next_swap h0 hy).1;rwa [hl] at this
theorem toksR_eq (rem p:Nat) (l:Bs):toksR rem p l=
  match l.drop (skp false l) with
  | []=> .ok []
  | c :: r=>match next (c :: r) with
   | .err e=> .err e
   | .ok (t,n)=>match rem with
    | 0=> .err 2
    | rem+1=>match toksR rem (p+skp false l+n) ((c :: r).drop n) with
     | .err e=> .err e
     | .ok ts=> .ok (⟨t,p+skp false l,p+skp false l+n⟩ :: ts):=by
 rw[toksR.eq_def]
inductive Lex:Nat→Bs→List Tok→Prop where
 | done (p:Nat) (l:Bs):l.drop (skp false l)=[]→Lex p l []
 | more (p:Nat) (l:Bs) (t:Tk) (n:Nat) (ts:List Tok):l.drop (skp false l)≠[]→next (l.drop (skp false l))= .ok (t,n)→
   Lex (p+skp false l+n) ((l.drop (skp false l)).drop n) ts→Lex p l (⟨t,p+skp false l,p+skp false l+n⟩ :: ts)
theorem lex_of:∀(rem p:Nat) (l:Bs) (ts:List Tok),toksR rem p l= .ok ts→Lex p l ts∧ts.length≤rem:=by
 intro rem
 induction rem with
 | zero=>
  intro p l ts h
  rw[toksR_eq] at h
  cases hd:l.drop (skp false l) with
  | nil=>rw[hd] at h;simp only[Res.ok.injEq] at h;subst h;exact⟨.done _ _ hd,by simp⟩
  | cons c r=>
   rw[hd] at h
   simp only at h
   cases hn:next (c :: r) with
   | err e=>rw[hn] at h;cases h
   | ok tn=>rw[hn] at h;cases h
 | succ rem ih=>
  intro p l ts h
  rw[toksR_eq] at h
  cases hd:l.drop (skp false l) with
  | nil=>rw[hd] at h;simp only[Res.ok.injEq] at h;subst h;exact⟨.done _ _ hd,by simp⟩
  | cons c r=>
   rw[hd] at h
   simp only at h
   cases hn:next (c :: r) with
   | err e=>rw[hn] at h;cases h
   | ok tn=>
    obtain⟨t,n⟩:=tn
    rw[hn] at h
    simp only at h
    cases ht:toksR rem (p+skp false l+n) ((c :: r).drop n) with
    | err e=>rw[ht] at h;cases h
    | ok ts'=>
     rw[ht] at h
     simp only[Res.ok.injEq] at h
     subst h
     obtain⟨i1,i2⟩:=ih _ _ _ ht
     exact⟨.more _ _ _ _ _ (by rw[hd];simp) (by rw[hd];exact hn) (by rw[hd];exact i1),by simp;omega⟩
end Lexy
namespace Pars
open Lexy (Tk)
abbrev Bs:=List UInt8
inductive Node where
 | mk (kind num:Int) (text:Bs) (kids:List Node)
instance:Inhabited Node:=⟨.mk 0 0 [] []⟩
namespace Node
def kind:Node→Int | .mk k _ _ _=>k
def num:Node→Int | .mk _ n _ _=>n
def text:Node→Bs | .mk _ _ t _=>t
def kids:Node→List Node | .mk _ _ _ l=>l
end Node
abbrev R:=Option (Node×List Tk)
def is (s:Bs):List Tk→Option (List Tk)
 | t :: r=>if (t.kind=4∨t.kind=5)∧t.text=s then some r else none
 | []=>none
def anyOf:List Bs→List Tk→Option (Bs×List Tk)
 | [],_=>none
 | s :: ss,l=>match is s l with
  | some r=>some (s,r)
  | none=>anyOf ss l
def andThen (r:R) (f:Node→List Tk→R):R:=match r with
 | none=>none
 | some (x,l)=>f x l
def alt (s:Bs) (l:List Tk) (f:List Tk→R) (g:R):R:=match is s l with
 | none=>g
 | some r=>f r
def must (s:Bs) (l:List Tk) (f:List Tk→R):R:=alt s l f none
def tok (k:Nat) (l:List Tk) (f:Tk→List Tk→R) (g:R):R:=match l with
 | []=>g
 | t :: r=>if t.kind=k then f t r else g
def named (l:List Tk) (f:Bs→List Tk→R):R:=tok 1 l (fun t r=>f t.text r) none
def signs (ss:List Bs) (l:List Tk) (f:Bs→List Tk→R) (g:R):R:=match anyOf ss l with
 | none=>g
 | some (s,r)=>f s r
def peek (s:Bs) (l:List Tk) (a b:R):R:=match l with
 | []=>b
 | t :: _=>if t.kind=4∧t.text=s then a else b
def sep (more:Bool) (l:List Tk) (f:List Tk→R):R:=if more then must [44] l f else f l
def ranks:List (List Bs):=[[[124,124]],[[38,38]],[[61,61],[33,61]],[[60],[60,61],[62],[62,61]],[[43],[45]],[[42],[47],[37]]]
def joined (sign:Bs) (a b:Node):Node:=
 if sign=[124,124] then .mk 17 0 [] [a,b] else if sign=[38,38] then .mk 16 0 [] [a,b] else .mk 15 0 sign [a,b]
inductive Nt where
 | block | blockGo (acc:List Node) | body (fn:Bool) | function (name:Bs) | inner | ifs | loops | tries | statement | expression | cond
 | binary (rank:Nat) | binGo (rank:Nat) (e:Node) | unary | post (e:Node) | first
 | some (fin:Bs) (one:Nt) (more:Bool) (acc:List Node) | param | pair
abbrev wLet:Bs:=[108,101,116]
abbrev wFn:Bs:=[102,110]
abbrev wIf:Bs:=[105,102]
abbrev wElse:Bs:=[101,108,115,101]
abbrev wWhile:Bs:=[119,104,105,108,101]
abbrev wFor:Bs:=[102,111,114]
abbrev wOf:Bs:=[111,102]
abbrev wReturn:Bs:=[114,101,116,117,114,110]
abbrev wBreak:Bs:=[98,114,101,97,107]
abbrev wContinue:Bs:=[99,111,110,116,105,110,117,101]
abbrev wThrow:Bs:=[116,104,114,111,119]
abbrev wTry:Bs:=[116,114,121]
abbrev wCatch:Bs:=[99,97,116,99,104]
abbrev wFinally:Bs:=[102,105,110,97,108,108,121]
abbrev wTrue:Bs:=[116,114,117,101]
abbrev wFalse:Bs:=[102,97,108,115,101]
abbrev wNull:Bs:=[110,117,108,108]
def ended (n:Node) (l:List Tk):R:=must [59] l fun r=>some (n,r)
def run:Nat→Nt→Bool→Bool→List Tk→R
 | 0,_,_,_,_=>none
 | n+1,.block,fn,lp,l=>must [123] l fun l=>run n (.blockGo []) fn lp l
 | n+1,.blockGo acc,fn,lp,l=>alt [125] l (fun r=>some (.mk 30 0 [] acc,r)) (andThen (run n .statement fn lp l) fun k r=>run n (.blockGo (acc++[k])) fn lp r)
 | n+1,.body f,fn,lp,l=>run n .block (fn||f) (!f) l
 | n+1,.function nm,fn,lp,l=>must [40] l fun l=>andThen (run n (.some [41] .param false []) fn lp l) fun ps l=>andThen (run n (.body true) fn lp l) fun b l=>some (.mk 9 0 nm (ps.kids++[b]),l)
 | n+1,.inner,fn,lp,l=>must [40] l fun l=>andThen (run n .expression fn lp l) fun e l=>must [41] l fun l=>some (e,l)
 | n+1,.ifs,fn,lp,l=>andThen (run n .inner fn lp l) fun c l=>andThen (run n .block fn lp l) fun b l=>
   alt wElse l (fun l=>alt wIf l (fun l=>andThen (run n .ifs fn lp l) fun e l=>some (.mk 22 0 [] [c,b,e],l)) (andThen (run n .block fn lp l) fun e l=>some (.mk 22 0 [] [c,b,e],l)))
    (some (.mk 22 0 [] [c,b],l))
 | n+1,.loops,fn,lp,l=>must [40] l fun l=>must wLet l fun l=>named l fun nm l=>must wOf l fun l=>andThen (run n .expression fn lp l) fun e l=>must [41] l fun l=>andThen (run n (.body false) fn lp l) fun b l=>some (.mk 24 0 nm [e,b],l)
 | n+1,.tries,fn,lp,l=>andThen (run n .block fn lp l) fun b l=>
   alt wCatch l (fun l=>must [40] l fun l=>named l fun nm l=>must [41] l fun l=>andThen (run n .block fn lp l) fun c l=>
     alt wFinally l (fun l=>andThen (run n .block fn lp l) fun d l=>some (.mk 29 3 nm [b,c,d],l)) (some (.mk 29 1 nm [b,c],l)))
    (alt wFinally l (fun l=>andThen (run n .block fn lp l) fun d l=>some (.mk 29 2 [] [b,d],l)) none)
 | n+1,.statement,fn,lp,l=>
   alt wLet l (fun l=>named l fun nm l=>must [61] l fun l=>andThen (run n .expression fn lp l) fun e l=>ended (.mk 20 0 nm [e]) l) <|
   alt wFn l (fun l=>named l fun nm l=>andThen (run n (.function nm) fn lp l) fun f l=>some (.mk 21 0 [] [f],l)) <|
   alt wIf l (fun l=>run n .ifs fn lp l) <|
   alt wWhile l (fun l=>andThen (run n .inner fn lp l) fun c l=>andThen (run n (.body false) fn lp l) fun b l=>some (.mk 23 0 [] [c,b],l)) <|
   alt wFor l (fun l=>run n .loops fn lp l) <|
   alt wReturn l (fun l=>if fn=false then none else alt [59] l (fun l=>some (.mk 25 0 [] [],l)) (andThen (run n .expression fn lp l) fun e l=>ended (.mk 25 0 [] [e]) l)) <|
   alt wBreak l (fun l=>if lp=false then none else ended (.mk 26 0 [] []) l) <|
   alt wContinue l (fun l=>if lp=false then none else ended (.mk 27 0 [] []) l) <|
   alt wThrow l (fun l=>andThen (run n .expression fn lp l) fun e l=>ended (.mk 28 0 [] [e]) l) <|
   alt wTry l (fun l=>run n .tries fn lp l) <|
   peek [123] l (run n .block fn lp l) (andThen (run n .expression fn lp l) fun e l=>ended (.mk 31 0 [] [e]) l)
 | n+1,.expression,fn,lp,l=>andThen (run n .cond fn lp l) fun e l=>
   alt [61] l (fun l=>if e.kind=5∨e.kind=12∨e.kind=13 then andThen (run n .expression fn lp l) fun v l=>some (.mk 19 0 [] [e,v],l) else none) (some (e,l))
 | n+1,.cond,fn,lp,l=>andThen (run n (.binary 0) fn lp l) fun e l=>
   alt [63] l (fun l=>andThen (run n .expression fn lp l) fun a l=>must [58] l fun l=>andThen (run n .expression fn lp l) fun b l=>some (.mk 18 0 [] [e,a,b],l)) (some (e,l))
 | n+1,.binary r,fn,lp,l=>if r=6 then run n .unary fn lp l else andThen (run n (.binary (r+1)) fn lp l) fun e l=>run n (.binGo r e) fn lp l
 | n+1,.binGo r e,fn,lp,l=>signs (ranks.getD r []) l (fun s l=>andThen (run n (.binary (r+1)) fn lp l) fun b l=>run n (.binGo r (joined s e b)) fn lp l) (some (e,l))
 | n+1,.unary,fn,lp,l=>signs [[33],[45]] l (fun s l=>andThen (run n .unary fn lp l) fun e l=>some (.mk 14 0 s [e],l)) (andThen (run n .first fn lp l) fun e l=>run n (.post e) fn lp l)
 | n+1,.post e,fn,lp,l=>
   alt [40] l (fun l=>andThen (run n (.some [41] .expression false []) fn lp l) fun ar l=>run n (.post (.mk 11 0 [] (e :: ar.kids))) fn lp l) <|
   alt [91] l (fun l=>andThen (run n .expression fn lp l) fun i l=>must [93] l fun l=>run n (.post (.mk 12 0 [] [e,i])) fn lp l) <|
   alt [46] l (fun l=>named l fun nm l=>run n (.post (.mk 13 0 nm [e])) fn lp l) (some (e,l))
 | n+1,.first,fn,lp,l=>
   tok 2 l (fun t r=>some (.mk 1 t.num [] [],r)) <| tok 3 l (fun t r=>some (.mk 2 0 t.text [],r)) <| tok 1 l (fun t r=>some (.mk 5 0 t.text [],r)) <|
   alt wTrue l (fun l=>some (.mk 3 1 [] [],l)) <| alt wFalse l (fun l=>some (.mk 3 0 [] [],l)) <| alt wNull l (fun l=>some (.mk 4 0 [] [],l)) <|
   alt wFn l (fun l=>run n (.function []) fn lp l) <|
   alt [91] l (fun l=>andThen (run n (.some [93] .expression false []) fn lp l) fun ar l=>some (.mk 6 0 [] ar.kids,l)) <|
   alt [123] l (fun l=>andThen (run n (.some [125] .pair false []) fn lp l) fun ar l=>some (.mk 7 0 [] ar.kids,l)) (run n .inner fn lp l)
 | n+1,.some fin one more acc,fn,lp,l=>alt fin l (fun r=>some (.mk 0 0 [] acc,r)) (sep more l fun l=>andThen (run n one fn lp l) fun x r=>run n (.some fin one true (acc++[x])) fn lp r)
 | n+1,.param,fn,lp,l=>named l fun nm l=>some (.mk 10 0 nm [],l)
 | n+1,.pair,fn,lp,l=>named l fun nm l=>must [58] l fun l=>andThen (run n .expression fn lp l) fun e l=>some (.mk 8 0 nm [e],l)
def fuel (l:List Tk):Nat:=20 * l.length+20
def top:Nat→List Node→List Tk→Option (List Node)
 | _,acc,[]=>some acc
 | 0,_,_ :: _=>none
 | n+1,acc,t :: l=>match run (fuel (t :: l)) .statement false false (t :: l) with
  | none=>none
  | some (k,r)=>top n (acc++[k]) r
mutual
def deep:Node→Nat
 | .mk _ _ _ l=>deeps l+1
def deeps:List Node→Nat
 | []=>0
 | n :: l=>max (deep n) (deeps l)
end
mutual
def same:Node→Node→Bool
 | .mk k n t l,.mk k' n' t' l'=>decide (k=k')&&(decide (n=n')&&(decide (t=t')&&sames l l'))
def sames:List Node→List Node→Bool
 | [],[]=>true
 | a :: l,b :: m=>same a b&&sames l m
 | [],_ :: _=>false
 | _ :: _,[]=>false
end
def tree (l:List Tk):Option Node:=(top l.length [] l).map (.mk 30 0 [])
def parse (s:Bs):Except Nat Node:=match Lexy.toks s with
 | .err e=> .error e
 | .ok l=>match tree (l.map (·.toTk)) with
  | none=> .error 4
  | some n=>if 40<deep n then .error 2 else .ok n
theorem try1:(match parse [120,61,49,43,50,42,40,51,45,121,41,59] with | .ok n=>deep n | .error e=>100+e)=7:=by decide+kernel
end Pars
namespace Lexy
theorem txtF_enough:∀(f g:Nat) (l:Bs),l.length≤f→l.length≤g→txtF f l=txtF g l:=by
 intro f
 induction f with
 | zero=>
  intro g l hf hg
  have:l=[]:=List.eq_nil_of_length_eq_zero (by omega)
  subst this
  cases g<;>simp[txtF]
 | succ f ih=>
  intro g l hf hg
  cases l with
  | nil=>cases g<;>simp[txtF]
  | cons c r=>
   cases g with
   | zero=>simp at hg
   | succ g=>
    simp only[List.length_cons] at hf hg
    simp only[txtF]
    by_cases h1:(c==34)=true
    ·rw[if_pos h1,if_pos h1]
    rw[if_neg h1,if_neg h1]
    by_cases h2:c.toNat<32
    ·rw[if_pos h2,if_pos h2]
    rw[if_neg h2,if_neg h2]
    by_cases h3:(c==92)=true
    ·rw[if_pos h3,if_pos h3]
     cases esc r with
     | none=>rfl
     | some bn=>
      obtain⟨b,n⟩:=bn
      simp only
      rw[ih g (r.drop n) (by simp;omega) (by simp;omega)]
    ·rw[if_neg h3,if_neg h3,ih g r (by omega) (by omega)]
theorem txt_nil:txt []=none:=by simp[txt,txtF]
theorem txt_cons (c:UInt8) (r:Bs):txt (c :: r)=
  if c==34 then some ([],1)
  else if c.toNat<32 then none
  else if c==92 then
   match esc r with
   | none=>none
   | some (b,n)=>match txt (r.drop n) with
    | none=>none
    | some (t,m)=>some (b :: t,1+n+m)
  else match txt r with
   | none=>none
   | some (t,m)=>some (c :: t,1+m):=by
 have e:∀n,txt (r.drop n)=txtF r.length (r.drop n):=fun n=>txtF_enough _ _ _ (Nat.le_refl _) (by simp)
 have e0:txt r=txtF r.length r:=rfl
 simp only[e,e0]
 rfl
def fin (acc:Bs) (k:Nat) (l:Bs):Option (Bs×Nat):=(txt l).map fun x=>(acc++x.1,k+x.2)
theorem fin_quote (acc:Bs) (k:Nat) (r:Bs):fin acc k (34 :: r)=some (acc,k+1):=by
 unfold fin;rw[txt_cons];simp
theorem fin_low (acc:Bs) (k:Nat) {c:UInt8} (r:Bs) (h:c.toNat<32):fin acc k (c :: r)=none:=by
 unfold fin;rw[txt_cons,if_neg (by intro hc;rw[eq_of_beq hc] at h;simp at h),if_pos h];rfl
theorem fin_bad (acc:Bs) (k:Nat) (r:Bs) (h:esc r=none):fin acc k (92 :: r)=none:=by
 unfold fin;rw[txt_cons,if_neg (by decide),if_neg (by decide),if_pos (by decide),h];rfl
theorem fin_esc (acc:Bs) (k:Nat) (r:Bs) {b:UInt8} {n:Nat} (h:esc r=some (b,n)):fin acc k (92 :: r)=fin (acc++[b]) (k+1+n) (r.drop n):=by
 unfold fin;rw[txt_cons,if_neg (by decide),if_neg (by decide),if_pos (by decide),h]
 simp only
 cases txt (r.drop n) with
 | none=>rfl
 | some x=>simp;omega
theorem fin_byte (acc:Bs) (k:Nat) {c:UInt8} (r:Bs) (h1:c≠34) (h2:¬c.toNat<32) (h3:c≠92):fin acc k (c :: r)=fin (acc++[c]) (k+1) r:=by
 unfold fin;rw[txt_cons,if_neg (by simpa using h1),if_neg h2,if_neg (by simpa using h3)]
 cases txt r with
 | none=>rfl
 | some x=>simp;omega
theorem fin_nil (acc:Bs) (k:Nat):fin acc k []=none:=by unfold fin;rw[txt_nil];rfl
end Lexy
namespace Lexy
def hexd (n:UInt8):UInt8:=if n<10 then n+48 else n+87
def qb (c:UInt8):Bs:=
 if c==34||c==92 then [92,c] else if c==10 then [92,110] else if c==9 then [92,116]
 else if decide (c.toNat<32)||decide (126<c.toNat) then [92,120,hexd (c / 16),hexd (c % 16)] else [c]
def quote (l:Bs):Bs:=34 :: (l.flatMap qb++[34])
theorem all_bytes {p:UInt8→Prop} [DecidablePred p] (h:∀n:Fin 256,p (UInt8.ofNat n)) (c:UInt8):p c:=by
 have:=h ⟨c.toNat,c.toNat_lt⟩
 simpa using this
theorem qb_len:∀c:UInt8,1≤(qb c).length∧(qb c).length≤4:=all_bytes (by decide+kernel)
end Lexy
namespace Wri
open Pars (Node Bs)
def plain (k:Int) (m:Nat):Bs×Bool:=
 if k=1∨k=2∨k=3∨k=4∨k=5∨k=10∨k=25∨k=26∨k=27 then ([],true)
 else if k=6 then ([101,42],true)
 else if k=7 then ([112,42],true)
 else if k=8∨k=13∨k=14∨k=20∨k=28∨k=31 then ([101],true)
 else if k=11 then ([101,101,42],true)
 else if k=12∨k=15∨k=16∨k=17 then ([101,101],true)
 else if k=18 then ([101,101,101],true)
 else if k=19 then ([116,101],true)
 else if k=21 then ([100],true)
 else if k=22 then ([101,98],true)
 else if k=23∨k=24 then ([101,108],true)
 else if k=29 then ([98,98],true)
 else if k=30 then ([115,42],true)
 else if k=9 then (List.replicate (m - 1) 113++[103],true)
 else ([],false)
def form (k nu:Int) (m:Nat):Bs×Bool:=
 (if k=22∧m=3 then [101,98,105] else if k=25∧m=1 then [101] else if k=29∧nu=3 then [98,98,98] else (plain k m).1,(plain k m).2)
def sort (n:Node) (c:UInt8):Bool:=
 if c=112 then decide (n.kind=8)
 else if c=116 then decide (n.kind=5∨n.kind=12∨n.kind=13)
 else if c=100 then decide (n.kind=9∧n.text≠[])
 else if c=98∨c=108∨c=103 then decide (n.kind=30)
 else if c=105 then decide (n.kind=30∨n.kind=22)
 else if c=113 then decide (n.kind=10)
 else if c=115 then decide (20≤n.kind∧n.kind≤31)
 else decide (1≤n.kind∧n.kind≤19∧n.kind≠8∧n.kind≠10∧(n.kind≠9∨n.text=[]))
def unaryS:Bs:=[33,32,45]
def binaryS:Bs:=[61,61,32,33,61,32,60,32,60,61,32,62,32,62,61,32,43,32,45,32,42,32,47,32,37]
def one (s words:Bs):Bool:=Go.Lib.contains ([32]++words++[32]) ([32]++s++[32])&&(!decide (s=[])&& !decide (0≤Go.Lib.indexByte s 32))
def name (s:Bs):Bool:=match Lexy.toks s with
 | .ok [t]=>decide (t.kind=1)&&decide (t.text=s)
 | _=>false
def fields (k nu:Int) (t:Bs):Bool:=
 if k=1 then decide (0≤nu∧nu≤9007199254740992)&&decide (t=[])
 else if k=3 then decide (nu=0∨nu=1)&&decide (t=[])
 else if k=29 then decide (1≤nu∧nu≤3)&&((decide (nu=2)&&decide (t=[]))||(!decide (nu=2)&&name t))
 else if k=2 then decide (nu=0)
 else if k=5∨k=8∨k=10∨k=13∨k=20∨k=24 then decide (nu=0)&&name t
 else if k=9 then decide (nu=0)&&(decide (t=[])||name t)
 else if k=14 then decide (nu=0)&&one t unaryS
 else if k=15 then decide (nu=0)&&one t binaryS
 else decide (nu=0)&&decide (t=[])
def star (f:Bs):Bool:=Go.Lib.hasSuffix f [42]
def bare (f:Bs):Bs:=Go.Lib.trimSuffix f [42]
def count (f:Bs) (m:Nat):Bool:=decide (m=(bare f).length)||(star f&&decide ((bare f).length≤m+1))
mutual
def right:Node→Bool→Bool→Bool
 | .mk k nu t l,fn,lp=>(form k nu l.length).2&&(fields k nu t&&(!(decide (k=25)&& !fn)&&(!(decide (k=26∨k=27)&& !lp)&&(count (form k nu l.length).1 l.length&&rights (bare (form k nu l.length).1) k fn lp 0 l))))
def rights (g:Bs) (k:Int) (fn lp:Bool):Nat→List Node→Bool
 | _,[]=>true
 | i,x :: l=>sort x (g.getD (min i (g.length - 1)) 0)&&(right x (fn||decide (g.getD (min i (g.length - 1)) 0=103)) (decide (g.getD (min i (g.length - 1)) 0=108)||(lp&&(!decide (g.getD (min i (g.length - 1)) 0=103)&& !decide (k=9))))&&rights g k fn lp (i+1) l)
end
def check (n:Node):Nat:=if n.kind≠30∨right n false false=false then 3 else if 40<Pars.deep n then 2 else 0
def rankOf:Nat→List (List Bs)→Bs→Int
 | _,[],_=>8
 | i,r :: l,t=>if t∈r then i else rankOf (i+1) l t
def rank (n:Node):Int:=
 if n.kind=19 then -2 else if n.kind=18 then -1 else if n.kind=17 then 0 else if n.kind=16 then 1 else if n.kind=15 then rankOf 0 Pars.ranks n.text
 else if n.kind=14 then 6 else if n.kind=11∨n.kind=12∨n.kind=13 then 7 else 8
def sgn (k:Int) (t:Bs):Bs:=if k=17 then [124,124] else if k=16 then [38,38] else t
def least (n:Node):Int:=if n.kind=19∨n.kind=11∨n.kind=12∨n.kind=13 then 7 else if n.kind=18 then 0 else rank n
def heads (k:Int):Bool:=decide (k=19∨k=18∨k=17∨k=16∨k=15∨k=11∨k=12∨k=13)
mutual
def front:Node→Int
 | .mk k nu t l=>if heads k then frontL (least (.mk k nu t l)) l else k
def frontL (q:Int):List Node→Int
 | []=>0
 | x :: _=>if rank x<q then 0 else front x
end
inductive M where
 | ex | at (q:Int) | fst | fn | block | ifs | tries | stmt | param | pair
def joinC:List Bs→Bs
 | []=>[]
 | [a]=>a
 | a :: l=>a++[44,32]++joinC l
def listed (o c:Bs) (l:List Bs):Bs:=o++joinC l++c
abbrev F:=M→Bs
def kid (f:List F) (i:Nat):F:=f.getD i (fun _=>[])
def wFn (t:Bs) (f:List F):Bs:=[102,110]++(if t=[] then [] else 32 :: t)++listed [40] [41] ((f.take (f.length - 1)).map (· .param))++[32]++kid f (f.length - 1) .block
def wFst (k nu:Int) (t:Bs) (f:List F):Bs:=
 if k=1 then Go.Lib.itoa nu else if k=2 then Lexy.quote t else if k=3 then (if nu=0 then Pars.wFalse else Pars.wTrue) else if k=4 then Pars.wNull else if k=5 then t
 else if k=6 then listed [91] [93] (f.map (· (.at (-2)))) else if k=7 then listed [123] [125] (f.map (· .pair)) else if k=9 then wFn t f else []
def wEx (k nu:Int) (t:Bs) (f:List F):Bs:=
 if k=19 then kid f 0 (.at 7)++[32,61,32]++kid f 1 (.at (-2))
 else if k=18 then kid f 0 (.at 0)++[32,63,32]++kid f 1 (.at (-2))++[32,58,32]++kid f 2 (.at (-2))
 else if k=17∨k=16∨k=15 then kid f 0 (.at (rank (.mk k nu t [])))++([32]++sgn k t++[32])++kid f 1 (.at (rank (.mk k nu t [])+1))
 else if k=14 then t++kid f 0 (.at 6)
 else if k=11 then kid f 0 (.at 7)++listed [40] [41] ((f.drop 1).map (· (.at (-2))))
 else if k=12 then kid f 0 (.at 7)++[91]++kid f 1 (.at (-2))++[93]
 else if k=13 then kid f 0 (.at 7)++(46 :: t)
 else wFst k nu t f
def wBlock (f:List F):Bs:=[123,32]++(f.flatMap fun g=>g .stmt++[32])++[125]
def wIfs (l:List Node) (f:List F):Bs:=
 [105,102,32,40]++kid f 0 (.at (-2))++[41,32]++kid f 1 .block++
  (if f.length=3 then [32,101,108,115,101,32]++(if (l.getD 2 default).kind=22 then kid f 2 .ifs else kid f 2 .block) else [])
def wTries (nu:Int) (t:Bs) (f:List F):Bs:=
 [116,114,121,32]++kid f 0 .block++(if nu=2 then [] else [32,99,97,116,99,104,32,40]++t++[41,32]++kid f 1 .block)++
  (if 1<nu then [32,102,105,110,97,108,108,121,32]++kid f (if nu=2 then 1 else 2) .block else [])
def wStmt (k nu:Int) (t:Bs) (l:List Node) (f:List F):Bs:=
 if k=20 then [108,101,116,32]++t++[32,61,32]++kid f 0 (.at (-2))++[59]
 else if k=21 then kid f 0 .fn
 else if k=22 then wIfs l f
 else if k=23 then [119,104,105,108,101,32,40]++kid f 0 (.at (-2))++[41,32]++kid f 1 .block
 else if k=24 then [102,111,114,32,40,108,101,116,32]++t++[32,111,102,32]++kid f 0 (.at (-2))++[41,32]++kid f 1 .block
 else if k=25 then [114,101,116,117,114,110]++(if 0<f.length then 32 :: kid f 0 (.at (-2)) else [])++[59]
 else if k=26 then [98,114,101,97,107,59]
 else if k=27 then [99,111,110,116,105,110,117,101,59]
 else if k=28 then [116,104,114,111,119,32]++kid f 0 (.at (-2))++[59]
 else if k=29 then wTries nu t f
 else if k=30 then wBlock f
 else if k=31 then (if front (l.getD 0 default)=7∨front (l.getD 0 default)=9 then [40]++kid f 0 (.at (-2))++[41] else kid f 0 (.at (-2)))++[59]
 else []
def step (k nu:Int) (t:Bs) (l:List Node) (f:List F):F
 | .ex=>wEx k nu t f
 | .at q=>if q≤rank (.mk k nu t []) then wEx k nu t f else [40]++wEx k nu t f++[41]
 | .fst=>wFst k nu t f
 | .fn=>wFn t f
 | .block=>wBlock f
 | .ifs=>wIfs l f
 | .tries=>wTries nu t f
 | .stmt=>wStmt k nu t l f
 | .param=>t
 | .pair=>t++[58,32]++kid f 0 (.at (-2))
mutual
def wr:Node→F
 | .mk k nu t l=>step k nu t l (wrs l)
def wrs:List Node→List F
 | []=>[]
 | n :: l=>wr n :: wrs l
end
def joinB:List Bs→Bs
 | []=>[]
 | [a]=>a
 | a :: l=>a++[32]++joinB l
def text (n:Node):Bs:=joinB (n.kids.map fun x=>wr x .stmt)
def write (n:Node):Except Nat Bs:=if check n≠0 then .error (check n) else if 2000<(text n).length then .error 2 else .ok (text n)
theorem wrs_map:∀l:List Node,wrs l=l.map wr
 | []=>rfl
 | n :: l=>by simp only[wrs,List.map_cons,wrs_map l]
mutual
def wg:Node→Nat
 | .mk _ _ t l=>t.length+wgs l+1
def wgs:List Node→Nat
 | []=>0
 | n :: l=>wg n+wgs l
end
theorem wgs_len:∀l:List Node,l.length≤wgs l
 | []=>by simp
 | n :: l=>by simp only[List.length_cons,wgs];have:=wgs_len l;cases n;simp only[wg];omega
theorem wg_mem:∀{l:List Node} {x:Node},x∈l→wg x≤wgs l
 | n :: l,x,h=>by
  simp only[wgs]
  rcases List.mem_cons.1 h with rfl | h
  ·omega
  ·have:=wg_mem h;omega
theorem suffix_cat (l:Bs) (c:UInt8):Go.Lib.hasSuffix (l++[c]) [42]=decide (c=42):=by
 unfold Go.Lib.hasSuffix
 rw[Bool.eq_iff_iff,List.isSuffixOf_iff_suffix,decide_eq_true_iff]
 constructor
 ·intro h
  obtain⟨r,hr⟩:=h
  have:=congrArg List.getLast? hr
  simp at this
  exact this.symm
 ·rintro rfl
  exact⟨l,rfl⟩
def forms:List Bs:=[[],[101,42],[112,42],[101],[101,101,42],[101,101],[101,101,101],[116,101],[100],[101,98],[101,108],[98,98],[115,42],[101,98,105],[98,98,98]]
theorem pick {α:Type} {P:α→Prop} {c:Prop} [Decidable c] {a b:α} (ha:P a) (hb:P b):P (if c then a else b):=by
 by_cases h:c
 ·rw[if_pos h];exact ha
 ·rw[if_neg h];exact hb
def Formy (f:Bs):Prop:=f∈forms∨∃q,f=List.replicate q 113++[103]
theorem plain_cases (k:Int) (m:Nat):Formy (plain k m).1:=by
 have h:(fun p:Bs×Bool=>Formy p.1) (plain k m):=by
  unfold plain
  repeat' apply pick (P:=fun p:Bs×Bool=>Formy p.1)
  all_goals first
   | exact .inr ⟨_,rfl⟩
   | exact .inl (by decide)
 exact h
theorem form_cases (k nu:Int) (m:Nat):Formy (form k nu m).1:=by
 unfold form
 simp only
 repeat' apply pick (P:=Formy)
 all_goals first
  | exact plain_cases k m
  | exact .inl (by decide)
theorem forms_star:∀f∈forms,star f=true→bare f≠[]:=by decide
theorem star_bare (k nu:Int) (m:Nat) (h:star (form k nu m).1=true):bare (form k nu m).1≠[]:=by
 rcases form_cases k nu m with hf | ⟨q,hf⟩
 ·exact forms_star _ hf h
 ·rw[hf] at h
  unfold star at h
  rw[suffix_cat] at h
  exact absurd h (by decide)
end Wri
namespace Wri
open Go (ln bn)
open Pars (Node Bs)
mutual
theorem ind {P:Node→Prop} (h:∀k nu t l,(∀x∈l,P x)→P (.mk k nu t l)):∀n:Node,P n
 | .mk k nu t l=>h k nu t l (inds h l)
theorem inds {P:Node→Prop} (h:∀k nu t l,(∀x∈l,P x)→P (.mk k nu t l)):∀l:List Node,∀x∈l,P x
 | []=>fun x hx=>by cases hx
 | n :: l=>fun x hx=>by
  rcases List.mem_cons.1 hx with hx | hx
  ·rw[hx];exact ind h n
  ·exact inds h l x hx
end
def isE (n:Node):Prop:=1≤n.kind∧n.kind≤19∧n.kind≠8∧n.kind≠10∧(n.kind≠9∨n.text=[])
def isT (n:Node):Prop:=n.kind=5∨n.kind=12∨n.kind=13
def binS:List Bs:=[[61,61],[33,61],[60],[60,61],[62],[62,61],[43],[45],[42],[47],[37]]
inductive Rt:Bool→Bool→Node→Prop where
 | num (fn lp:Bool) (nu:Int):0≤nu→nu≤9007199254740992→Rt fn lp (.mk 1 nu [] [])
 | str (fn lp:Bool) (t:Bs):Rt fn lp (.mk 2 0 t [])
 | bool (fn lp:Bool) (nu:Int):nu=0∨nu=1→Rt fn lp (.mk 3 nu [] [])
 | null (fn lp:Bool):Rt fn lp (.mk 4 0 [] [])
 | var (fn lp:Bool) (t:Bs):name t=true→Rt fn lp (.mk 5 0 t [])
 | list (fn lp:Bool) (l:List Node):(∀x∈l,isE x)→(∀x∈l,Rt fn lp x)→Rt fn lp (.mk 6 0 [] l)
 | recd (fn lp:Bool) (l:List Node):(∀x∈l,x.kind=8)→(∀x∈l,Rt fn lp x)→Rt fn lp (.mk 7 0 [] l)
 | pair (fn lp:Bool) (t:Bs) (a:Node):name t=true→isE a→Rt fn lp a→Rt fn lp (.mk 8 0 t [a])
 | func (fn lp:Bool) (t:Bs) (ps:List Bs) (b:Node):(t=[]∨name t=true)→(∀x∈ps,name x=true)→b.kind=30→Rt true false b→Rt fn lp (.mk 9 0 t (ps.map (fun p=> .mk 10 0 p [])++[b]))
 | param (fn lp:Bool) (t:Bs):name t=true→Rt fn lp (.mk 10 0 t [])
 | call (fn lp:Bool) (a:Node) (l:List Node):isE a→Rt fn lp a→(∀x∈l,isE x)→(∀x∈l,Rt fn lp x)→Rt fn lp (.mk 11 0 [] (a :: l))
 | index (fn lp:Bool) (a b:Node):isE a→Rt fn lp a→isE b→Rt fn lp b→Rt fn lp (.mk 12 0 [] [a,b])
 | dot (fn lp:Bool) (t:Bs) (a:Node):name t=true→isE a→Rt fn lp a→Rt fn lp (.mk 13 0 t [a])
 | unary (fn lp:Bool) (t:Bs) (a:Node):t=[33]∨t=[45]→isE a→Rt fn lp a→Rt fn lp (.mk 14 0 t [a])
 | binary (fn lp:Bool) (t:Bs) (a b:Node):t∈binS→isE a→Rt fn lp a→isE b→Rt fn lp b→Rt fn lp (.mk 15 0 t [a,b])
 | and_ (fn lp:Bool) (a b:Node):isE a→Rt fn lp a→isE b→Rt fn lp b→Rt fn lp (.mk 16 0 [] [a,b])
 | or_ (fn lp:Bool) (a b:Node):isE a→Rt fn lp a→isE b→Rt fn lp b→Rt fn lp (.mk 17 0 [] [a,b])
 | cond (fn lp:Bool) (a b c:Node):isE a→Rt fn lp a→isE b→Rt fn lp b→isE c→Rt fn lp c→Rt fn lp (.mk 18 0 [] [a,b,c])
 | assign (fn lp:Bool) (a b:Node):isT a→Rt fn lp a→isE b→Rt fn lp b→Rt fn lp (.mk 19 0 [] [a,b])
 | let_ (fn lp:Bool) (t:Bs) (a:Node):name t=true→isE a→Rt fn lp a→Rt fn lp (.mk 20 0 t [a])
 | def_ (fn lp:Bool) (f:Node):f.kind=9→f.text≠[]→Rt fn lp f→Rt fn lp (.mk 21 0 [] [f])
 | if2 (fn lp:Bool) (c b:Node):isE c→Rt fn lp c→b.kind=30→Rt fn lp b→Rt fn lp (.mk 22 0 [] [c,b])
 | if3 (fn lp:Bool) (c b e:Node):isE c→Rt fn lp c→b.kind=30→Rt fn lp b→(e.kind=30∨e.kind=22)→Rt fn lp e→Rt fn lp (.mk 22 0 [] [c,b,e])
 | while_ (fn lp:Bool) (c b:Node):isE c→Rt fn lp c→b.kind=30→Rt fn true b→Rt fn lp (.mk 23 0 [] [c,b])
 | for_ (fn lp:Bool) (t:Bs) (c b:Node):name t=true→isE c→Rt fn lp c→b.kind=30→Rt fn true b→Rt fn lp (.mk 24 0 t [c,b])
 | ret0 (lp:Bool):Rt true lp (.mk 25 0 [] [])
 | ret1 (lp:Bool) (a:Node):isE a→Rt true lp a→Rt true lp (.mk 25 0 [] [a])
 | brk (fn:Bool):Rt fn true (.mk 26 0 [] [])
 | cont (fn:Bool):Rt fn true (.mk 27 0 [] [])
 | throw (fn lp:Bool) (a:Node):isE a→Rt fn lp a→Rt fn lp (.mk 28 0 [] [a])
 | try1 (fn lp:Bool) (t:Bs) (b c:Node):name t=true→b.kind=30→Rt fn lp b→c.kind=30→Rt fn lp c→Rt fn lp (.mk 29 1 t [b,c])
 | try2 (fn lp:Bool) (b d:Node):b.kind=30→Rt fn lp b→d.kind=30→Rt fn lp d→Rt fn lp (.mk 29 2 [] [b,d])
 | try3 (fn lp:Bool) (t:Bs) (b c d:Node):name t=true→b.kind=30→Rt fn lp b→c.kind=30→Rt fn lp c→d.kind=30→Rt fn lp d→Rt fn lp (.mk 29 3 t [b,c,d])
 | block (fn lp:Bool) (l:List Node):(∀x∈l,20≤x.kind∧x.kind≤31)→(∀x∈l,Rt fn lp x)→Rt fn lp (.mk 30 0 [] l)
 | expr (fn lp:Bool) (a:Node):isE a→Rt fn lp a→Rt fn lp (.mk 31 0 [] [a])
theorem right_eq (k nu:Int) (t:Bs) (l:List Node) (fn lp:Bool):right (.mk k nu t l) fn lp=((form k nu l.length).2&&(fields k nu t&&(!(decide (k=25)&& !fn)&&(!(decide (k=26∨k=27)&& !lp)&&(count (form k nu l.length).1 l.length&&rights (bare (form k nu l.length).1) k fn lp 0 l))))):=by rw[right]
theorem rights_nil (g:Bs) (k:Int) (fn lp:Bool) (i:Nat):rights g k fn lp i []=true:=by rw[rights]
theorem rights_cons (g:Bs) (k:Int) (fn lp:Bool) (i:Nat) (x:Node) (l:List Node):rights g k fn lp i (x :: l)=(sort x (g.getD (min i (g.length - 1)) 0)&&(right x (fn||decide (g.getD (min i (g.length - 1)) 0=103)) (decide (g.getD (min i (g.length - 1)) 0=108)||(lp&&(!decide (g.getD (min i (g.length - 1)) 0=103)&& !decide (k=9))))&&rights g k fn lp (i+1) l)):=by rw[rights]
theorem sort_e (n:Node):sort n 101=true↔isE n:=by unfold sort isE;simp
theorem sort_t (n:Node):sort n 116=true↔isT n:=by unfold sort isT;simp
theorem sort_b (n:Node):sort n 98=true↔n.kind=30:=by unfold sort;simp
theorem sort_l (n:Node):sort n 108=true↔n.kind=30:=by unfold sort;simp
theorem sort_g (n:Node):sort n 103=true↔n.kind=30:=by unfold sort;simp
theorem sort_p (n:Node):sort n 112=true↔n.kind=8:=by unfold sort;simp
theorem sort_d (n:Node):sort n 100=true↔(n.kind=9∧n.text≠[]):=by unfold sort;simp
theorem sort_i (n:Node):sort n 105=true↔(n.kind=30∨n.kind=22):=by unfold sort;simp
theorem sort_q (n:Node):sort n 113=true↔n.kind=10:=by unfold sort;simp
theorem sort_s (n:Node):sort n 115=true↔(20≤n.kind∧n.kind≤31):=by unfold sort;simp
theorem rights_all (c:UInt8) (hc:c≠103∧c≠108) (k:Int) (hk:k≠9) (fn lp:Bool):∀(l:List Node) (i:Nat),rights [c] k fn lp i l=true↔∀x∈l,sort x c=true∧right x fn lp=true
 | [],i=>by rw[rights_nil];simp
 | y :: l,i=>by
  have e:([c]:Bs).getD (min i (([c]:Bs).length - 1)) 0=c:=by simp
  rw[rights_cons,e,Bool.and_eq_true,Bool.and_eq_true,rights_all c hc k hk fn lp l (i+1)]
  simp[hc.1,hc.2,hk]
  constructor
  ·rintro⟨a,b,c⟩;exact⟨⟨a,b⟩,c⟩
  ·rintro⟨⟨a,b⟩,c⟩;exact⟨a,b,c⟩
theorem rights_tail (d c:UInt8) (hc:c≠103∧c≠108) (k:Int) (hk:k≠9) (fn lp:Bool):∀(l:List Node) (i:Nat),1≤i→(rights [d,c] k fn lp i l=true↔∀x∈l,sort x c=true∧right x fn lp=true)
 | [],i,_=>by rw[rights_nil];simp
 | y :: l,i,hi=>by
  have e:([d,c]:Bs).getD (min i (([d,c]:Bs).length - 1)) 0=c:=by
   have:min i (([d,c]:Bs).length - 1)=1:=by simp only[List.length_cons,List.length_nil];omega
   rw[this];rfl
  rw[rights_cons,e,Bool.and_eq_true,Bool.and_eq_true,rights_tail d c hc k hk fn lp l (i+1) (by omega)]
  simp[hc.1,hc.2,hk]
  constructor
  ·rintro⟨a,b,c⟩;exact⟨⟨a,b⟩,c⟩
  ·rintro⟨⟨a,b⟩,c⟩;exact⟨a,b,c⟩
theorem rights_fn (m:Nat) (fn lp:Bool) (b:Node):∀(l:List Node) (i:Nat),i+l.length=m→(rights (List.replicate m 113++[103]) 9 fn lp i (l++[b])=true↔(∀x∈l,sort x 113=true∧right x fn false=true)∧sort b 103=true∧right b true false=true)
 | [],i,hi=>by
  have e:(List.replicate m 113++[103]:Bs).getD (min i ((List.replicate m 113++[103]:Bs).length - 1)) 0=103:=by
   have h1:min i ((List.replicate m 113++[103]:Bs).length - 1)=m:=by simp at hi ⊢;omega
   rw[h1,List.getD_eq_getElem?_getD,List.getElem?_append_right (by simp)];simp
  rw[List.nil_append,rights_cons,e,rights_nil]
  simp
 | y :: l,i,hi=>by
  have e:(List.replicate m 113++[103]:Bs).getD (min i ((List.replicate m 113++[103]:Bs).length - 1)) 0=113:=by
   simp only[List.length_cons] at hi
   have h1:min i ((List.replicate m 113++[103]:Bs).length - 1)=i:=by simp;omega
   rw[h1,List.getD_eq_getElem?_getD,List.getElem?_append_left (by simp;omega),List.getElem?_replicate,if_pos (by omega)];rfl
  rw[List.cons_append,rights_cons,e,Bool.and_eq_true,Bool.and_eq_true,rights_fn m fn lp b l (i+1) (by simp only[List.length_cons] at hi;omega)]
  simp
  constructor
  ·rintro⟨a,b,c,d⟩;exact⟨⟨⟨a,b⟩,c⟩,d⟩
  ·rintro⟨⟨⟨a,b⟩,c⟩,d⟩;exact⟨a,b,c,d⟩
theorem len0 {l:List Node} (h:count [] l.length=true):l=[]:=by
 unfold count at h
 rw[show star []=false from by decide,show (bare []).length=0 from by decide] at h
 simpa using h
theorem len1 {f:Bs} {l:List Node} (hs:star f=false) (hb:(bare f).length=1) (h:count f l.length=true):∃a,l=[a]:=by
 unfold count at h
 rw[hs,hb] at h
 simp at h
 exact List.length_eq_one_iff.1 h
theorem len2 {f:Bs} {l:List Node} (hs:star f=false) (hb:(bare f).length=2) (h:count f l.length=true):∃a b,l=[a,b]:=by
 unfold count at h
 rw[hs,hb] at h
 simp at h
 match l,h with
 | [a,b],_=>exact⟨a,b,rfl⟩
theorem len3 {f:Bs} {l:List Node} (hs:star f=false) (hb:(bare f).length=3) (h:count f l.length=true):∃a b c,l=[a,b,c]:=by
 unfold count at h
 rw[hs,hb] at h
 simp at h
 match l,h with
 | [a,b,c],_=>exact⟨a,b,c,rfl⟩
theorem kinds {k:Int} {m:Nat} (h:(plain k m).2=true):1≤k∧k≤31:=by
 by_cases hk:1≤k∧k≤31
 ·exact hk
 ·exfalso
  have:(plain k m).2=false:=by
   unfold plain
   repeat rw[if_neg (by omega)]
  rw[this] at h
  cases h
theorem bare9 (m:Nat):bare (List.replicate m 113++[103])=List.replicate m 113++[103]∧star (List.replicate m 113++[103])=false:=by
 have hs:star (List.replicate m 113++[103])=false:=by unfold star;rw[suffix_cat];decide
 refine⟨?_,hs⟩
 unfold bare Go.Lib.trimSuffix
 rw[if_neg (by unfold star at hs;rw[hs];simp)]
theorem one_words (L:Bs) {s:Bs} (h:one s L=true):s≠[]∧∃i,i≤L.length+2∧s.length≤L.length∧s=((([32]++L++[32]):Bs).drop (i+1)).take s.length∧((([32]++L++[32]):Bs).drop i).take 1=[32]∧((([32]++L++[32]):Bs).drop (i+1+s.length)).take 1=[32]∧(32:UInt8)∉s:=by
 unfold one at h
 simp only[Bool.and_eq_true,Bool.not_eq_true',decide_eq_false_iff_not] at h
 obtain⟨h1,h2,h3⟩:=h
 refine⟨h2,?_⟩
 unfold Go.Lib.contains at h1
 rw[decide_eq_true_eq] at h1
 have hroom:=Go.Lib.index_room _ _ h1
 rcases Go.Lib.index_spec ([32]++L++[32]) ([32]++s++[32]) with⟨hn,_⟩ | ⟨i,h4,h5,h6, -⟩
 ·omega
 ·rw[h4] at hroom
  simp only[ln] at hroom h5
  unfold Go.Lib.occAt at h6
  rw[List.isPrefixOf_iff_prefix] at h6
  obtain⟨q,hq⟩:=h6
  refine⟨i,by omega,by omega,?_,?_,?_,?_⟩
  ·rw[←List.drop_drop, ←hq];simp
  ·rw[←hq];simp
  ·rw[show i+1+s.length=i+(1+s.length) by omega, ←List.drop_drop, ←hq]
   rw[show (1+s.length)=([32]++s:Bs).length by simp;omega,List.append_assoc ([32]++s),List.drop_left' rfl];rfl
  ·intro hm
   apply h3
   clear h1 h2 h3 h4 h5 hq hroom
   have:Go.Lib.indexByte s 32≠ -1:=by
    intro hc
    induction s with
    | nil=>cases hm
    | cons b r ih=>
     unfold Go.Lib.indexByte at hc
     split at hc
     ·cases hc
     ·rename_i hb
      rcases List.mem_cons.1 hm with hm | hm
      ·subst hm;simp at hb
      ·split at hc
       ·rename_i hh;exact ih hm (by simpa using hh)
       ·have:=Go.Lib.indexByte_ge r 32;omega
   have:=Go.Lib.indexByte_ge s 32
   omega
theorem unary_dec:∀i:Fin 6,∀n:Fin 4,let L:Bs:=[32]++unaryS++[32];let s:=(L.drop (i.val+1)).take n.val;s.length=n.val→s≠[]→(L.drop i.val).take 1=[32]→(L.drop (i.val+1+n.val)).take 1=[32]→(32:UInt8)∉s→s=[33]∨s=[45]:=by decide+kernel
theorem binary_dec:∀i:Fin 28,∀n:Fin 26,let L:Bs:=[32]++binaryS++[32];let s:=(L.drop (i.val+1)).take n.val;s.length=n.val→s≠[]→(L.drop i.val).take 1=[32]→(L.drop (i.val+1+n.val)).take 1=[32]→(32:UInt8)∉s→s∈binS:=by decide+kernel
theorem one_unary {s:Bs}:one s unaryS=true↔s=[33]∨s=[45]:=by
 constructor
 ·intro h
  obtain⟨h0,i,h1,h2,h3,h4,h5,h6⟩:=one_words unaryS h
  have:=unary_dec ⟨i,by simp[unaryS] at h1;omega⟩ ⟨s.length,by simp[unaryS] at h2;omega⟩
  simp only at this
  rw[←h3] at this
  exact this rfl h0 h4 h5 h6
 ·rintro (rfl | rfl)<;>decide
theorem one_binary {s:Bs}:one s binaryS=true↔s∈binS:=by
 constructor
 ·intro h
  obtain⟨h0,i,h1,h2,h3,h4,h5,h6⟩:=one_words binaryS h
  have:=binary_dec ⟨i,by simp[binaryS] at h1;omega⟩ ⟨s.length,by simp[binaryS] at h2;omega⟩
  simp only at this
  rw[←h3] at this
  exact this rfl h0 h4 h5 h6
 ·intro h
  have:∀s∈binS,one s binaryS=true:=by decide+kernel
  exact this s h
end Wri
