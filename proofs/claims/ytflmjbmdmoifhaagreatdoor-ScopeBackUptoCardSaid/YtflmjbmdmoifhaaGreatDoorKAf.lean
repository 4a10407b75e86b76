/-
  Texts that the law leans on: SmK, ParS, ScG, PmB, PmC. Conditions: as each says.
-/
import Derived.Test.YtflmjbmdmoifhaaGreatDoorKAe
import Derived.Test.YtflmjbmdmoifhaaGreatDoorKAc
import Derived.Test.YtflmjbmdmoifhaaGreatDoorKAb
import Derived.BigQuiet
import Derived.Deep.RegionHeld3
import Derived.Deep.LoopGhost
import Derived.Deep.MidRow
import Derived.Test.YtflmjbmdmoifhaaGreatDoorKAa
set_option linter.unusedSimpArgs false
set_option linter.unusedVariables false
namespace Go.Proofs.YtflmjbmdmoifhaaGreatDoor
open Go.Lib (hid)
open Go.RowKit
section
variable {N l B kb : Nat} {kv : Value} {known : List (List UInt8)} {dk : Int} {nm : List UInt8} {w : World} {LS RS : Nat → Prop} {s : Scopy.St} {tb tm : Nat} {out dv uv : Value} {g o lo hi : Nat} {C : Array Value} {n : Pars.Node} {v : Value} {fn lp : Bool}
theorem KBase.enter (h:KBase w kb LS RS g lo hi) {w1:World} (hz:w1.heap.size=w.heap.size+2) (hlt:∀i,LS i→i<w.heap.size):KBase w1 kb LS (fun i=>RS i∨i=w.heap.size∨i=w.heap.size+1) g lo hi:=by
 have h1:=h.gw
 have h2:=h.hh
 have h3:=h.kw
 refine⟨h.ng,?_,h.gi,by omega,fun i q1 q2=>⟨(h.ni i q1 q2).1,?_⟩,by omega,h.kg,h.kl,fun i hi=> ?_,h.kL,by omega⟩
 ·rintro (e | e | e)
  ·exact h.gR e
  ·omega
  ·omega
 ·rintro (e | e | e)
  ·exact (h.ni i q1 q2).2 e
  ·omega
  ·omega
 ·rcases hi with e | rfl | rfl
  ·exact⟨(h.nR i e).1,by have:=(h.nR i e).2;omega⟩
  ·exact⟨fun e=>by have:=hlt _ e;omega,by omega⟩
  ·exact⟨fun e=>by have:=hlt _ e;omega,by omega⟩
theorem par_mk (x:Pars.Node) (s:Scopy.St):Scopy.par (Scopy.hs known dk nm) x s=(((Scopy.hs known dk nm).decl 10 x.text s).1,.mk x.kind x.num ((Scopy.hs known dk nm).decl 10 x.text s).2 x.kids):=by cases x;rfl
set_option maxRecDepth 100000 in
set_option maxHeartbeats 8000000 in
theorem look_fn {nu:Int} {t:List UInt8} {ks:List Pars.Node} (ih:LookLe N l B kb kv known dk nm) (hst:StPre w l B kb kv known dk nm LS RS s tb tm out dv uv) (hnd:NdPre w kb LS RS g o lo hi C (.mk 9 nu t ks) v) (he:s.e=0) (hr:Wri.right (.mk 9 nu t ks) fn lp=true) (hd:Pars.deep (.mk 9 nu t ks)≤N+1) (hdd:s.top.deep+Pars.deep (.mk 9 nu t ks)≤1000) (hf:Scopy.Few (Scopy.tr (Scopy.hs known dk nm) (N+1) (.mk 9 nu t ks) s).1):
  Calls Tryz.prog 27 #[at_ l 0,at_ tb 0,at_ g o] w (LookOut w l B kv dk nm LS g o lo hi C v (.mk 9 nu t ks) (Scopy.tr (Scopy.hs known dk nm) (N+1) (.mk 9 nu t ks) s)):=by
 obtain⟨P,y,rfl,hP,hy⟩:∃P y,ks=P++[y]∧(∀p∈P,Wri.name p.text=true)∧Wri.right y true false=true:=by
  have h:=Wri.rt_of _ _ _ hr
  cases h with
  | func _ _ _ ps b _ hps _ hb=>
   refine⟨ps.map (fun p=> .mk 10 0 p []),b,rfl,fun p hp=> ?_,Wri.of_rt hb⟩
   obtain⟨q,hq,rfl⟩:=List.mem_map.1 hp
   exact hps q hq
 have htr:Scopy.tr (Scopy.hs known dk nm) (N+1) (.mk 9 nu t (P++[y])) s=((Scopy.hs known dk nm).pop (Scopy.tr (Scopy.hs known dk nm) N y (Scopy.mapA (Scopy.par (Scopy.hs known dk nm)) P ((Scopy.hs known dk nm).push 1 s)).1).1,.mk 9 nu t ((Scopy.mapA (Scopy.par (Scopy.hs known dk nm)) P ((Scopy.hs known dk nm).push 1 s)).2++[(Scopy.tr (Scopy.hs known dk nm) N y (Scopy.mapA (Scopy.par (Scopy.hs known dk nm)) P ((Scopy.hs known dk nm).push 1 s)).1).2])):=by
  have e1:(P++[y]).take ((P++[y]).length - 1)=P:=by simp
  have e2:(P++[y]).drop ((P++[y]).length - 1)=[y]:=by simp
  rw[Scopy.tr9_,e1,e2]
  rfl
 rw[htr] at hf ⊢
 have hf1:Scopy.Few (Scopy.tr (Scopy.hs known dk nm) N y (Scopy.mapA (Scopy.par (Scopy.hs known dk nm)) P ((Scopy.hs known dk nm).push 1 s)).1).1:=(Scopy.few_back known dk nm).pop _ hf
 have hf2:Scopy.Few (Scopy.mapA (Scopy.par (Scopy.hs known dk nm)) P ((Scopy.hs known dk nm).push 1 s)).1:=Scopy.tr_back (Scopy.few_back known dk nm) N y _ hf1
 have hf3:Scopy.Few s:=(Scopy.few_back known dk nm).push 1 s (Scopy.mapA_back (Scopy.par_back (Scopy.few_back known dk nm)) _ _ hf2)
 have l3:=hst.lk.box.cell 3
 simp[lkc,he] at l3
 have n0:w.cell? ⟨g,o,none⟩=some (.int .i64 9):=by rw[hnd.node.cell];exact hnd.cells 0 (by omega)
 have r1:=hst.top.cell 1
 simp[rmc] at r1
 obtain⟨A,cap,hv0⟩:=KidsIn.slice hnd.kids
 obtain⟨m,hm⟩:∃m,P.length=m:=⟨_,rfl⟩
 have hv:v= .slice A (m+1) cap:=by rw[hv0];show Value.slice A (P++[y]).length cap=_;rw[List.length_append,hm];rfl
 clear hv0
 subst hv
 have HC3:=hid (hnd.cells 3 (by omega))
 have HB0:=hid (kbase hst hnd)
 have HC:=hid hnd.cells
 have HST:=hid hst
 have HND:=hid hnd
 have hd0:=hd
 have hdd0:=hdd
 have hyd:Pars.deep y≤Pars.deeps (P++[y]):=deep_mem (by simp)
 simp only[Pars.deep] at hd0 hdd0
 have HD:Hid (Pars.deep y≤N∧s.top.deep+1+Pars.deep y≤1000):=hid (by omega)
 have hdw:IntKind.i64.wrap ((s.top.deep:Int)+1)=((s.top.deep+1:Nat):Int):=by rw[IntKind.wrap_i64];omega
 have hdb:s.top.deep≤1000:=by omega
 have HF1:=hid hf1
 have HF2:=hid hf2
 have HF3:=hid hf3
 have HP:=hid hP
 have HY:=hid hy
 have IH:=hid ih
 have HM:=hid hm
 clear hst hnd hr hd hdd hd0 hdd0 hf ih hy hP hf1 hf2 hf3 htr hyd
 go_enter Tryz.func27,Tryz.ntmps27
 go_wp2_with fail
 refine (within_room (some ⟨tb,0,none⟩) (s.top.deep+1) w).mono ?_
 rintro e w1 ⟨rfl,hb1,hm1,hb,hz1⟩
 have HS1:=hid (HST.out.enter HF3.out 1 hb1 hm1 hb hz1)
 have HB1:=hid hb
 have HZ1:=hid hz1
 have HBB:=hid (HB0.out.enter hz1 HST.out.lk.lt)
 have HK0:Hid (KSt w1 w1 l B kb kv known dk nm LS (fun i=>RS i∨i=w.heap.size∨i=w.heap.size+1) (fun i=>i=w.heap.size) (Scopy.done (Scopy.par (Scopy.hs known dk nm)) P ((Scopy.hs known dk nm).push 1 s) 0).1 (w.heap.size+1) w.heap.size (at_ tb 0) dv uv g lo hi C ((Scopy.done (Scopy.par (Scopy.hs known dk nm)) P ((Scopy.hs known dk nm).push 1 s) 0).2++[y]) A (m+1) cap):=by
  rw[Scopy.done_zero]
  exact⟨HS1.out.grow0,(Fr.below hb (fun _=>False)).box HND.out.node (fun h=>h),HND.out.kids.fr (Fr.below hb (fun _=>False)) (fun _ _ _ h=>h),Fr.refl w1 _,by simp[hm]⟩
 obtain⟨hmc,hc63⟩:=HK0.out.room (by omega)
 have g3:w1.cell? ⟨g,o+3,none⟩=some (.slice A (m+1) cap):=by rw[HK0.out.node.cell];exact HC3.out
 have hmcz:(m:Int)≤(cap:Int):=by omega
 have wm:IntKind.i64.wrap ((m:Int)+1 - 1)=(m:Int):=by rw[IntKind.wrap_i64];omega
 clear hb1 hm1 hb hz1 r1
 go_upto_region 15 with fail
 go_loopg [71] m (fun gg s71 wr=>∃(j:Nat) (dv':Value),j≤m∧m - j≤gg∧s71= .int .i64 (j:Int)∧Hid (KSt w1 wr l B kb kv known dk nm LS (fun i=>RS i∨i=w.heap.size∨i=w.heap.size+1) (fun i=>i=w.heap.size) (Scopy.done (Scopy.par (Scopy.hs known dk nm)) P ((Scopy.hs known dk nm).push 1 s) j).1 (w.heap.size+1) w.heap.size (at_ tb 0) dv' uv g lo hi C ((Scopy.done (Scopy.par (Scopy.hs known dk nm)) P ((Scopy.hs known dk nm).push 1 s) j).2++[y]) A (m+1) cap))
 case atStart=>exact⟨0,dv,Nat.zero_le _,by omega,rfl,HK0⟩
 case round=>
  clear HK0 g3
  obtain⟨j,dvj,hj,hgg,rfl,HKj⟩:=hrel
  by_cases hlt:j<m
  ·have hltz:(j:Int)<(m:Int):=by omega
   have hltd:decide ((j:Int)<(m:Int))=true:=decide_eq_true hltz
   have hlt2:(j:Int)<(m:Int)+1:=by omega
   obtain⟨x,hx⟩:∃x,P[j]? =some x:=⟨_,List.getElem?_eq_getElem (by rw[hm];exact hlt)⟩
   have hxa:=Scopy.done_at (Scopy.par (Scopy.hs known dk nm)) ((Scopy.hs known dk nm).push 1 s) hx
   have hla:j<(Scopy.done (Scopy.par (Scopy.hs known dk nm)) P ((Scopy.hs known dk nm).push 1 s) j).2.length:=by rw[Scopy.done_len,hm];exact hlt
   have hnx:=Scopy.done_succ (Scopy.par (Scopy.hs known dk nm)) ((Scopy.hs known dk nm).push 1 s) hx
   have hfx:=Scopy.done_back (Scopy.par_back (Scopy.few_back known dk nm)) (l:=P) (s:=(Scopy.hs known dk nm).push 1 s) (j+1) HF2.out
   rw[hnx,par_mk] at hfx
   rw[par_mk] at hnx
   have hnl:=Scopy.name_len (HP.out x (List.mem_of_getElem? hx))
   obtain⟨b,hA,_,hcall⟩:=HKj.out.tell HBB.out rfl (i:=j) (x:=x) (by rw[List.getElem?_append_left hla];exact hxa) (by omega) 10 hfx (j * 4) rfl
   subst hA
   have gj3:wr.cell? ⟨g,o+3,none⟩=some (.slice (some ⟨b,0,none⟩) (m+1) cap):=by rw[HKj.out.node.cell];exact HC3.out
   have HCALL:=hid hcall
   have HNX:Hid (∀x',((Scopy.done (Scopy.par (Scopy.hs known dk nm)) P ((Scopy.hs known dk nm).push 1 s) j).2++[y]).set j x'=(Scopy.done (Scopy.par (Scopy.hs known dk nm)) P ((Scopy.hs known dk nm).push 1 s) j).2.set j x'++[y]):=hid (fun x'=>List.set_append_left _ _ hla)
   have HNE:=hid hnx
   clear hnx hfx hcall hx hxa hla hnl
   go_wp2_with fail
   refine HCALL.out.mono ?_
   rintro e w2 ⟨rfl,dv2,hk2⟩
   rw[HNX.out] at hk2
   have HK2:=hid hk2
   clear hk2
   go_wp2_with fail
   go_roundg (m - (j+1))
   case measure=>omega
   case rel=>exact⟨j+1,dv2,by omega,by omega,by go_num,by rw[HNE.out];exact HK2⟩
  ·have hltz:¬(j:Int)<(m:Int):=by omega
   have hltd:decide ((j:Int)<(m:Int))=false:=decide_eq_false hltz
   obtain rfl:j=m:=by omega
   have hjz:(j:Int)<(j:Int)+1:=by omega
   have hlen:(Scopy.mapA (Scopy.par (Scopy.hs known dk nm)) P ((Scopy.hs known dk nm).push 1 s)).2.length=j:=by rw[Scopy.mapA_len,hm]
   have htd:(Scopy.mapA (Scopy.par (Scopy.hs known dk nm)) P ((Scopy.hs known dk nm).push 1 s)).1.top.deep=s.top.deep+1:=by
    have:=Scopy.done_par_deep (known:=known) (dk:=dk) (nm:=nm) P ((Scopy.hs known dk nm).push 1 s) P.length
    rw[Scopy.done_all] at this
    exact this
   have HKj2:=HKj
   rw[show Scopy.done (Scopy.par (Scopy.hs known dk nm)) P ((Scopy.hs known dk nm).push 1 s) j=Scopy.mapA (Scopy.par (Scopy.hs known dk nm)) P ((Scopy.hs known dk nm).push 1 s) by rw[←hm,Scopy.done_all]] at HKj2
   obtain⟨b,hA,_,a,c,vx,C2,hnd,hnext⟩:=HKj2.out.look HBB.out (i:=j) (x:=y) (by rw[List.getElem?_append_right (by omega),hlen,Nat.sub_self];rfl) (j * 4) rfl
   subst hA
   have gj3:wr.cell? ⟨g,o+3,none⟩=some (.slice (some ⟨b,0,none⟩) (j+1) cap):=by rw[HKj.out.node.cell];exact HC3.out
   have HCALL:=hid (IH.out wr _ _ _ _ _ _ _ _ b (j * 4) a c C2 y vx true false HKj2.out.st hnd HY.out HD.out.1 (by rw[htd];exact HD.out.2) HF1.out)
   have HNE:=hid hnext
   have HLEN:=hid hlen
   clear hnd hnext hlen htd HKj HKj2
   go_wp2_with fail
   refine HCALL.out.mono ?_
   rintro e w2 ho
   obtain⟨rfl,dv2,uv2,hk2⟩:=HNE.out N e w2 ho
   have HK2:=hid hk2
   clear hk2 ho
   go_wp2_with fail
   refine bodyPost_end (results_none rfl _ _ _) rfl ?_
   have h:=HK2.out
   have hz:=HZ1.out
   have e3:((Scopy.mapA (Scopy.par (Scopy.hs known dk nm)) P ((Scopy.hs known dk nm).push 1 s)).2++[y]).set j (Scopy.tr (Scopy.hs known dk nm) N y (Scopy.mapA (Scopy.par (Scopy.hs known dk nm)) P ((Scopy.hs known dk nm).push 1 s)).1).2=(Scopy.mapA (Scopy.par (Scopy.hs known dk nm)) P ((Scopy.hs known dk nm).push 1 s)).2++[(Scopy.tr (Scopy.hs known dk nm) N y (Scopy.mapA (Scopy.par (Scopy.hs known dk nm)) P ((Scopy.hs known dk nm).push 1 s)).1).2]:=by
    rw[List.set_append_right _ _ (by rw[HLEN.out];omega),HLEN.out,Nat.sub_self]
    rfl
   have hkk:=h.kids
   rw[e3] at hkk
   refine⟨rfl,dv2,uv2,C,(h.st.lk.sets (fun i hq=>⟨hq.1,hq.2.imp id (fun e=>by omega)⟩) (fun i hq=>hq.1)).state rfl rfl rfl,h.node,Same4.refl C o,HC.out,hkk,(Fr.below HB1.out _).step h.fr fun i hi e=> ?_⟩
   rcases e with e | e
   ·exact e
   ·omega
theorem look_any (hnm:0≤dk→Wri.name nm=true):∀N,LookLe N l B kb kv known dk nm
 | 0=>fun w LS RS s tb tm out dv uv g o lo hi C n v fn lp hst hnd hr hd hdd hf=>by
  obtain⟨k,nu,t,ks⟩:=n
  simp[Pars.deep] at hd
 | N+1=>fun w LS RS s tb tm out dv uv g o lo hi C n v fn lp hst hnd hr hd hdd hf=>by
  have ih:=look_any hnm N
  by_cases he:s.e=0
  ·obtain⟨k,nu,t,ks⟩:=n
   by_cases h5:k=5
   ·subst h5;exact look_use hst hnd he hr hf
   by_cases h30:k=30
   ·subst h30;exact look_block hnm ih hst hnd he hr hd hdd hf
   by_cases h9:k=9
   ·subst h9;exact look_fn ih hst hnd he hr hd hdd hf
   by_cases h24:k=24
   ·subst h24;exact look_for ih hst hnd he hr hd hdd hf
   by_cases h29:k=29
   ·subst h29
    by_cases hnu:nu=2
    ·subst hnu;exact look_try2 ih hst hnd he hr hd hdd hf
    ·exact look_try hnu ih hst hnd he hr hd hdd hf
   ·exact look_kids ih hst hnd he hr hd hdd hf h5 h30 h9 h24 h29
  ·exact look_wrong hst hnd he
end
end Go.Proofs.YtflmjbmdmoifhaaGreatDoor
namespace Pars
open Lexy (Tk)
mutual
def size:Node→Nat
 | .mk _ _ _ l=>sizes l+1
def sizes:List Node→Nat
 | []=>0
 | n :: l=>size n+sizes l
end
theorem sizes_append:∀a b:List Node,sizes (a++b)=sizes a+sizes b
 | [],b=>by simp[sizes]
 | n :: a,b=>by simp only[List.cons_append,sizes,sizes_append a b];omega
theorem sizes_kids (n:Node):sizes n.kids+1=size n:=by cases n;rfl
mutual
theorem deep_size:∀n:Node,deep n≤size n
 | .mk _ _ _ l=>by simp only[deep,size];have:=deeps_size l;omega
theorem deeps_size:∀l:List Node,deeps l≤sizes l
 | []=>by simp[deeps]
 | n :: l=>by simp only[deeps,sizes];have:=deep_size n;have:=deeps_size l;omega
end
def Cost (d:Int) (p:List Tk→R):Prop:=∀l x r,p l=some (x,r)→(size x:Int)+r.length≤d+l.length
theorem cost_weak {d e:Int} {p:List Tk→R} (h:Cost d p) (hd:d≤e):Cost e p:=fun l x r q=>by have:=h l x r q;omega
theorem cost_none (d:Int):Cost d (fun _=>none):=fun l x r h=>by cases h
theorem cost_pure {d:Int} (x:Node) (hx:(size x:Int)≤d):Cost d (fun l=>some (x,l)):=fun l y r h=>by
 injection h with h;injection h with h1 h2;subst h1 h2;omega
theorem cost_alt {d:Int} {w:Bs} {f g:List Tk→R} (hf:Cost (d+1) f) (hg:Cost d g):Cost d (fun l=>alt w l f (g l)):=by
 intro l x r h
 cases hi:is w l with
 | none=>simp only[alt,hi] at h;exact hg l x r h
 | some l'=>
  simp only[alt,hi] at h
  obtain⟨⟨t,ht,_⟩,_⟩:=is_some hi
  have:=hf l' x r h
  subst ht
  simp only[List.length_cons];omega
theorem cost_must {d:Int} {w:Bs} {f:List Tk→R} (hf:Cost (d+1) f):Cost d (fun l=>must w l f):=cost_alt hf (cost_none _)
theorem cost_tok {d:Int} {k:Nat} {f:Tk→List Tk→R} {g:List Tk→R} (hf:∀t,Cost (d+1) (f t)) (hg:Cost d g):Cost d (fun l=>tok k l f (g l)):=by
 intro l x r h
 cases l with
 | nil=>exact hg [] x r h
 | cons t l=>
  simp only[tok] at h
  by_cases hk:t.kind=k
  ·rw[if_pos hk] at h
   have:=hf t l x r h
   simp only[List.length_cons];omega
  ·rw[if_neg hk] at h;exact hg _ x r h
theorem cost_named {d:Int} {f:Bs→List Tk→R} (hf:∀n,Cost (d+1) (f n)):Cost d (fun l=>named l f):=cost_tok (fun t=>hf t.text) (cost_none _)
theorem cost_and {a d:Int} {p:List Tk→R} {q:Node→List Tk→R} (hp:Cost a p) (hq:∀x,Cost (d - a+size x) (q x)):Cost d (fun l=>andThen (p l) q):=by
 intro l x r h
 cases hi:p l with
 | none=>simp only[andThen,hi] at h;cases h
 | some y=>
  obtain⟨y,l1⟩:=y
  simp only[andThen,hi] at h
  have h1:=hp l y l1 hi
  have h2:=hq y l1 x r h
  omega
theorem cost_signs {d:Int} {ss:List Bs} {f:Bs→List Tk→R} {g:List Tk→R} (hf:∀n,Cost (d+1) (f n)) (hg:Cost d g):Cost d (fun l=>signs ss l f (g l)):=by
 intro l x r h
 cases hi:anyOf ss l with
 | none=>simp only[signs,hi] at h;exact hg l x r h
 | some y=>
  obtain⟨w,l'⟩:=y
  simp only[signs,hi] at h
  obtain⟨⟨t,ht⟩,_⟩:=any_some hi
  have:=hf w l' x r h
  subst ht
  simp only[List.length_cons];omega
theorem cost_peek {d:Int} {w:Bs} {a b:List Tk→R} (ha:Cost d a) (hb:Cost d b):Cost d (fun l=>peek w l (a l) (b l)):=by
 intro l x r h
 cases l with
 | nil=>exact hb [] x r h
 | cons t l=>
  simp only[peek] at h
  by_cases hk:t.kind=4∧t.text=w
  ·rw[if_pos hk] at h;exact ha _ x r h
  ·rw[if_neg hk] at h;exact hb _ x r h
theorem cost_sep {d:Int} {more:Bool} {f:List Tk→R} (hf:Cost d f):Cost d (fun l=>sep more l f):=by
 cases more
 ·exact hf
 ·exact cost_must (cost_weak hf (by omega))
theorem cost_ite {d:Int} {c:Prop} [Decidable c] {p q:List Tk→R} (hp:Cost d p) (hq:Cost d q):Cost d (fun l=>if c then p l else q l):=by
 by_cases h:c
 ·simpa [h] using hp
 ·simpa [h] using hq
def owed:Nt→Int
 | .block=> -1
 | .body _=> -1
 | .inner=> -2
 | .blockGo acc=>sizes acc
 | .binGo _ e=>size e
 | .post e=>size e
 | .some _ _ _ acc=>sizes acc
 | _=>0
theorem size_joined (s:Bs) (a b:Node):size (joined s a b)=size a+size b+1:=by unfold joined;split<;>(try split)<;>simp[size,sizes]
def good:Nt→Bool
 | .some _ .param _ _=>true
 | .some _ .expression _ _=>true
 | .some _ .pair _ _=>true
 | .some _ _ _ _=>false
 | _=>true
theorem good_some {f:Bs} {one:Nt} {m:Bool} {acc:List Node} (h:good (.some f one m acc)=true):owed one=0∧good one=true∧∀m acc,good (.some f one m acc)=true:=by
 cases one<;>first | (simp[good] at h;done) | exact⟨rfl,rfl,fun _ _=>rfl⟩
theorem run_cost:∀n nt fn lp,good nt=true→Cost (owed nt) (fun l=>run n nt fn lp l)
 | 0,nt,fn,lp,_=>by simp only[run];exact cost_none _
 | n+1,nt,fn,lp,hg=>by
  have ih:=run_cost n
  cases nt
  case some fin one more acc=>
   obtain⟨h1,h2,h3⟩:=good_some hg
   simp only[run]
   refine cost_alt (cost_pure _ ?_) (cost_sep (cost_and (ih _ _ _ h2) fun x=>cost_weak (ih _ _ _ (h3 _ _)) ?_))
   ·simp only[owed,size];omega
   ·rw[h1];simp only[owed,sizes_append,sizes];omega
  all_goals
   simp only[run]
   repeat' first
    | exact cost_none _
    | (refine cost_must ?_)
    | (refine cost_named fun _=> ?_)
    | (refine cost_alt ?_ ?_)
    | (refine cost_and (ih _ _ _ rfl) fun _=> ?_)
    | (refine cost_tok (fun _=> ?_) ?_)
    | (refine cost_signs (fun _=> ?_) ?_)
    | (refine cost_peek ?_ ?_)
    | (refine cost_ite ?_ ?_)
    | (refine cost_weak (ih _ _ _ rfl) ?_;simp only[owed,size,sizes,sizes_append,size_joined];omega)
    | (refine cost_pure _ ?_;simp only[owed,size,sizes,sizes_append,size_joined];omega)
    | (rename_i y;have hy:=sizes_kids y;refine cost_weak (ih _ _ _ rfl) ?_;simp only[owed,size,sizes,sizes_append,size_joined];omega)
    | (rename_i y;have hy:=sizes_kids y;refine cost_pure _ ?_;simp only[owed,size,sizes,sizes_append,size_joined];omega)
    | (rename_i y z;have hy:=sizes_kids y;refine cost_pure _ ?_;simp only[owed,size,sizes,sizes_append,size_joined];omega)
theorem top_size:∀n acc l k,top n acc l=some k→sizes k≤sizes acc+l.length
 | _,acc,[],k,h=>by
  have:k=acc:=by cases ‹Nat› <;>simp[top] at h<;>exact h.symm
  subst this;simp
 | 0,_,_ :: _,k,h=>by simp[top] at h
 | n+1,acc,t :: l,k,h=>by
  simp only[top] at h
  cases hr:run (fuel (t :: l)) .statement false false (t :: l) with
  | none=>rw[hr] at h;cases h
  | some y=>
   obtain⟨x,r⟩:=y
   rw[hr] at h
   have h1:=top_size n _ _ _ h
   have h2:=run_cost _ .statement false false rfl (t :: l) x r hr
   simp only[owed] at h2
   rw[sizes_append] at h1
   simp only[sizes] at h1
   omega
theorem tree_size {l:List Tk} {n:Node} (h:tree l=some n):size n≤l.length+1:=by
 unfold tree at h
 cases ht:top l.length [] l with
 | none=>rw[ht] at h;cases h
 | some k=>
  rw[ht] at h
  injection h with h
  subst h
  have:=top_size _ _ _ _ ht
  simp only[sizes] at this
  simp only[size];omega
end Pars
namespace Scopy
open Pars (Node Bs)
def cnt (s:St):Nat:=s.decls.length+s.uses.length
section
variable {known : List Bs} {dk : Int} {nm : Bs}
theorem cnt_decl (k:Int) (t:Bs) (s:St):cnt ((hs known dk nm).decl k t s).1≤cnt s+1:=by
 rcases decl_cases (known:=known) (dk:=dk) (nm:=nm) k t s with⟨_,e⟩ | ⟨_,_,e⟩ | ⟨_,_,e⟩<;>rw[e]<;>simp[cnt]<;>omega
theorem cnt_use (t:Bs) (s:St):cnt ((hs known dk nm).use t s).1≤cnt s+1:=by
 rcases use_cases (known:=known) (dk:=dk) (nm:=nm) t s with⟨_,e⟩ | ⟨_,k,_,e⟩ | ⟨_,_,_,e⟩ | ⟨_,_,_,e⟩<;>rw[e]<;>simp[cnt,mark_len]<;>omega
theorem sizes_app:∀(a b:List Node),Pars.sizes (a++b)=Pars.sizes a+Pars.sizes b
 | [],b=>by simp[Pars.sizes]
 | x :: a,b=>by simp only[List.cons_append,Pars.sizes];rw[sizes_app a b];omega
theorem sizes_cut (l:List Node) (m:Nat):Pars.sizes (l.take m)+Pars.sizes (l.drop m)=Pars.sizes l:=by rw[←sizes_app,List.take_append_drop]
theorem size_pos:∀n:Node,1≤Pars.size n
 | .mk k nu t l=>by simp[Pars.size]
theorem sizes_ge:∀l:List Node,l.length≤Pars.sizes l
 | []=>by simp[Pars.sizes]
 | n :: l=>by simp only[Pars.sizes,List.length_cons];have:=size_pos n;have:=sizes_ge l;omega
theorem size_in:∀{l:List Node} {x:Node},x∈l→Pars.size x≤Pars.sizes l
 | n :: l,x,h=>by
  simp only[Pars.sizes]
  rcases List.mem_cons.1 h with rfl | h
  ·omega
  ·have:=size_in h;omega
theorem setH_size (x:Bs):∀n:Node,Pars.size (setH x n)=Pars.size n
 | .mk k nu t l=>by
  by_cases h1:k=20
  ·subst h1;simp[setH,Pars.size]
  ·by_cases h2:k=21
   ·subst h2
    match l with
    | []=>simp[setH,Pars.size]
    | .mk k2 nu2 t2 l2 :: r=>simp[setH,Pars.size,Pars.sizes]
   ·simp[setH,h1,h2]
theorem told_size (H:Hd St) (a:Node) (s:St):Pars.size (told H a s).2=Pars.size a:=by
 unfold told
 split
 ·exact setH_size _ _
 ·rfl
theorem mapA_sizes {f:Node→St→St×Node} (h:∀a s,Pars.size (f a s).2=Pars.size a):∀(l:List Node) (s:St),Pars.sizes (mapA f l s).2=Pars.sizes l
 | [],s=>rfl
 | a :: l,s=>by simp only[mapA,Pars.sizes];rw[h,mapA_sizes h l]
theorem mapA_cnt1 {f:Node→St→St×Node} (h:∀a s,cnt (f a s).1≤cnt s+1):∀(l:List Node) (s:St),cnt (mapA f l s).1≤cnt s+l.length
 | [],s=>by simp[mapA]
 | a :: l,s=>by simp only[mapA,List.length_cons];have:=mapA_cnt1 h l (f a s).1;have:=h a s;omega
theorem mapA_cnt2 {f:Node→St→St×Node} (h:∀a s,cnt (f a s).1+1≤cnt s+2 * Pars.size a):∀(l:List Node) (s:St),cnt (mapA f l s).1+l.length≤cnt s+2 * Pars.sizes l
 | [],s=>by simp[mapA,Pars.sizes]
 | a :: l,s=>by simp only[mapA,List.length_cons,Pars.sizes];have:=mapA_cnt2 h l (f a s).1;have:=h a s;omega
theorem told_cnt (a:Node) (s:St):cnt (told (hs known dk nm) a s).1≤cnt s+1:=by
 unfold told
 split
 ·exact cnt_decl _ _ _
 ·show cnt s≤cnt s+1;omega
theorem par_cnt:∀(a:Node) (s:St),cnt (par (hs known dk nm) a s).1≤cnt s+1
 | .mk k nu t l,s=>cnt_decl _ _ _
theorem tr_cnt:∀(N:Nat) (n:Node) (s:St),cnt (tr (hs known dk nm) N n s).1+1≤cnt s+2 * Pars.size n
 | 0,n,s=>by show cnt s+1≤_;have:=size_pos n;omega
 | N+1,.mk k nu t l,s=>by
  have ih:=fun l s=>mapA_cnt2 (f:=tr (hs known dk nm) N) (tr_cnt N) l s
  simp only[Pars.size]
  unfold tr
  split
  ·have:=cnt_use (known:=known) (dk:=dk) (nm:=nm) t s;simp only[];omega
  split
  ·have h1:=mapA_cnt1 (told_cnt (known:=known) (dk:=dk) (nm:=nm)) l ((hs known dk nm).push 0 s)
   have h2:=ih (mapA (told (hs known dk nm)) l ((hs known dk nm).push 0 s)).2 (mapA (told (hs known dk nm)) l ((hs known dk nm).push 0 s)).1
   rw[mapA_len,mapA_sizes (told_size _)] at h2
   have h3:cnt ((hs known dk nm).push 0 s)=cnt s:=rfl
   simp only[]
   show cnt (mapA _ _ _).1+1≤_
   omega
  split
  ·have h1:=mapA_cnt1 (par_cnt (known:=known) (dk:=dk) (nm:=nm)) (l.take (l.length - 1)) ((hs known dk nm).push 1 s)
   have h2:=ih (l.drop (l.length - 1)) (mapA (par (hs known dk nm)) (l.take (l.length - 1)) ((hs known dk nm).push 1 s)).1
   have h3:cnt ((hs known dk nm).push 1 s)=cnt s:=rfl
   have h4:=sizes_cut l (l.length - 1)
   have h5:=sizes_ge (l.take (l.length - 1))
   simp only[]
   show cnt (mapA _ _ _).1+1≤_
   omega
  split
  ·split
   ·have:=ih l s;simp only[];omega
   ·show cnt s+1≤_;omega
  split
  ·have h1:=ih (l.take 1) s
   have h2:=cnt_decl (known:=known) (dk:=dk) (nm:=nm) 24 t ((hs known dk nm).push 0 (mapA (tr (hs known dk nm) N) (l.take 1) s).1)
   have h3:cnt ((hs known dk nm).push 0 (mapA (tr (hs known dk nm) N) (l.take 1) s).1)=cnt (mapA (tr (hs known dk nm) N) (l.take 1) s).1:=rfl
   have h4:=ih (l.drop 1) ((hs known dk nm).decl 24 t ((hs known dk nm).push 0 (mapA (tr (hs known dk nm) N) (l.take 1) s).1)).1
   have h5:=sizes_cut l 1
   simp only[]
   show cnt (mapA _ _ _).1+1≤_
   omega
  split
  ·have h1:=ih (l.take 1) s
   have h2:=cnt_decl (known:=known) (dk:=dk) (nm:=nm) 29 t ((hs known dk nm).push 0 (mapA (tr (hs known dk nm) N) (l.take 1) s).1)
   have h3:cnt ((hs known dk nm).push 0 (mapA (tr (hs known dk nm) N) (l.take 1) s).1)=cnt (mapA (tr (hs known dk nm) N) (l.take 1) s).1:=rfl
   have h4:=ih ((l.drop 1).take 1) ((hs known dk nm).decl 29 t ((hs known dk nm).push 0 (mapA (tr (hs known dk nm) N) (l.take 1) s).1)).1
   have h6:=ih ((l.drop 1).drop 1) ((hs known dk nm).pop (mapA (tr (hs known dk nm) N) ((l.drop 1).take 1) ((hs known dk nm).decl 29 t ((hs known dk nm).push 0 (mapA (tr (hs known dk nm) N) (l.take 1) s).1)).1).1)
   have h7:cnt ((hs known dk nm).pop (mapA (tr (hs known dk nm) N) ((l.drop 1).take 1) ((hs known dk nm).decl 29 t ((hs known dk nm).push 0 (mapA (tr (hs known dk nm) N) (l.take 1) s).1)).1).1)=cnt (mapA (tr (hs known dk nm) N) ((l.drop 1).take 1) ((hs known dk nm).decl 29 t ((hs known dk nm).push 0 (mapA (tr (hs known dk nm) N) (l.take 1) s).1)).1).1:=rfl
   have h5:=sizes_cut l 1
   have h8:=sizes_cut (l.drop 1) 1
   simp only[]
   omega
  ·have:=ih l s;simp only[];omega
end
theorem par_size (H:Hd St):∀(a:Node) (s:St),Pars.size (par H a s).2=Pars.size a
 | .mk k nu t l,s=>rfl
theorem tr_size (H:Hd St):∀(N:Nat) (n:Node) (s:St),Pars.size (tr H N n s).2=Pars.size n
 | 0,n,s=>rfl
 | N+1,.mk k nu t l,s=>by
  have ih:=fun l s=>mapA_sizes (f:=tr H N) (tr_size H N) l s
  unfold tr
  split
  ·rfl
  split
  ·simp only[Pars.size];rw[ih,mapA_sizes (told_size H)]
  split
  ·simp only[Pars.size];rw[sizes_app,ih,mapA_sizes (par_size H),sizes_cut]
  split
  ·split
   ·simp only[Pars.size];rw[ih]
   ·rfl
  split
  ·simp only[Pars.size];rw[sizes_app,ih,ih,sizes_cut]
  split
  ·simp only[Pars.size];rw[sizes_app,sizes_app,ih,ih,ih,sizes_cut,sizes_cut]
  ·simp only[Pars.size];rw[ih]
theorem wgs_app:∀(a b:List Node),Wri.wgs (a++b)=Wri.wgs a+Wri.wgs b
 | [],b=>by simp[Wri.wgs]
 | x :: a,b=>by simp only[List.cons_append,Wri.wgs];rw[wgs_app a b];omega
theorem wgs_cut (l:List Node) (m:Nat):Wri.wgs (l.take m)+Wri.wgs (l.drop m)=Wri.wgs l:=by rw[←wgs_app,List.take_append_drop]
structure Lengthens (H:Hd St) (M:Nat):Prop where
 decl:∀k t s,(H.decl k t s).2.length≤t.length+M
 use:∀t s,(H.use t s).2.length≤t.length+M
theorem lengthens (known:List Bs) (dk:Int) (nm:Bs):Lengthens (hs known dk nm) nm.length where
 decl k t s:=by
  rcases decl_cases (known:=known) (dk:=dk) (nm:=nm) k t s with⟨_,e⟩ | ⟨_,_,e⟩ | ⟨_,_,e⟩<;>rw[e]<;>simp only[]
  ·omega
  ·omega
  ·split<;>omega
 use t s:=by
  rcases use_cases (known:=known) (dk:=dk) (nm:=nm) t s with⟨_,e⟩ | ⟨_,k,_,e⟩ | ⟨_,_,_,e⟩ | ⟨_,_,_,e⟩<;>rw[e]<;>simp only[]
  ·omega
  ·split<;>omega
  ·omega
  ·omega
theorem setH_wg (x:Bs):∀(n:Node) (p:Int×Bs),hd n=some p→Wri.wg (setH x n)+p.2.length=Wri.wg n+x.length
 | .mk k nu t l,p,h=>by
  by_cases h1:k=20
  ·subst h1;simp[hd] at h;subst h;simp only[setH,if_pos,Wri.wg];omega
  ·by_cases h2:k=21
   ·subst h2
    match l,h with
    | [],h=>simp[hd] at h
    | .mk k2 nu2 t2 l2 :: r,h=>
     simp[hd] at h;subst h
     have e:setH x (.mk 21 nu t (.mk k2 nu2 t2 l2 :: r))= .mk 21 nu t (.mk k2 nu2 x l2 :: r):=rfl
     rw[e];simp only[Wri.wg,Wri.wgs];omega
   ·simp[hd,h1,h2] at h
theorem told_wg {H:Hd St} {M:Nat} (hl:Lengthens H M) (a:Node) (s:St):Wri.wg (told H a s).2≤Wri.wg a+M:=by
 unfold told
 cases h:hd a with
 | none=>show Wri.wg a≤_;omega
 | some p=>
  have h1:=setH_wg (H.decl p.1 p.2 s).2 a p h
  have h2:=hl.decl p.1 p.2 s
  show Wri.wg (setH (H.decl p.1 p.2 s).2 a)≤_
  omega
theorem par_wg {H:Hd St} {M:Nat} (hl:Lengthens H M):∀(a:Node) (s:St),Wri.wg (par H a s).2≤Wri.wg a+M
 | .mk k nu t l,s=>by have:=hl.decl 10 t s;simp only[par,Wri.wg];omega
theorem mapA_wg1 {f:Node→St→St×Node} {M:Nat} (h:∀a s,Wri.wg (f a s).2≤Wri.wg a+M):∀(l:List Node) (s:St),Wri.wgs (mapA f l s).2≤Wri.wgs l+l.length * M
 | [],s=>by simp[mapA,Wri.wgs]
 | a :: l,s=>by
  simp only[mapA,List.length_cons,Wri.wgs,Nat.add_mul,Nat.one_mul]
  have:=mapA_wg1 h l (f a s).1;have:=h a s;omega
theorem mapA_wg2 {f:Node→St→St×Node} {M:Nat} (h:∀a s,Wri.wg (f a s).2+M≤Wri.wg a+2 * (Pars.size a * M)):∀(l:List Node) (s:St),Wri.wgs (mapA f l s).2+l.length * M≤Wri.wgs l+2 * (Pars.sizes l * M)
 | [],s=>by simp[mapA,Wri.wgs]
 | a :: l,s=>by
  simp only[mapA,List.length_cons,Wri.wgs,Pars.sizes,Nat.add_mul,Nat.one_mul]
  have:=mapA_wg2 h l (f a s).1;have:=h a s;omega
theorem tr_wg {H:Hd St} {M:Nat} (hl:Lengthens H M):∀(N:Nat) (n:Node) (s:St),Wri.wg (tr H N n s).2+M≤Wri.wg n+2 * (Pars.size n * M)
 | 0,n,s=>by
  show Wri.wg n+M≤_
  have:=Nat.mul_le_mul_right M (size_pos n)
  omega
 | N+1,.mk k nu t l,s=>by
  have ih:=fun l s=>mapA_wg2 (f:=tr H N) (tr_wg hl N) l s
  have sg:∀l:List Node,l.length * M≤Pars.sizes l * M:=fun l=>Nat.mul_le_mul_right M (sizes_ge l)
  simp only[Pars.size,Nat.add_mul,Nat.one_mul,Wri.wg]
  unfold tr
  split
  ·have:=hl.use t s;simp only[Wri.wg];omega
  split
  ·have h1:=mapA_wg1 (told_wg hl) l (H.push 0 s)
   have h2:=ih (mapA (told H) l (H.push 0 s)).2 (mapA (told H) l (H.push 0 s)).1
   rw[mapA_len,mapA_sizes (told_size _)] at h2
   simp only[Wri.wg]
   omega
  split
  ·have h1:=mapA_wg1 (par_wg hl) (l.take (l.length - 1)) (H.push 1 s)
   have h2:=ih (l.drop (l.length - 1)) (mapA (par H) (l.take (l.length - 1)) (H.push 1 s)).1
   have h4:=wgs_cut l (l.length - 1)
   have h5:=sg (l.take (l.length - 1))
   have h6:Pars.sizes (l.take (l.length - 1)) * M+Pars.sizes (l.drop (l.length - 1)) * M=Pars.sizes l * M:=by rw[←Nat.add_mul,sizes_cut]
   simp only[Wri.wg]
   rw[wgs_app]
   omega
  split
  ·split
   ·have:=ih l s;simp only[Wri.wg];omega
   ·simp only[Wri.wg];omega
  split
  ·have h1:=ih (l.take 1) s
   have h2:=hl.decl 24 t (H.push 0 (mapA (tr H N) (l.take 1) s).1)
   have h4:=ih (l.drop 1) (H.decl 24 t (H.push 0 (mapA (tr H N) (l.take 1) s).1)).1
   have h5:=wgs_cut l 1
   have h6:Pars.sizes (l.take 1) * M+Pars.sizes (l.drop 1) * M=Pars.sizes l * M:=by rw[←Nat.add_mul,sizes_cut]
   simp only[Wri.wg]
   rw[wgs_app]
   omega
  split
  ·have h1:=ih (l.take 1) s
   have h2:=hl.decl 29 t (H.push 0 (mapA (tr H N) (l.take 1) s).1)
   have h4:=ih ((l.drop 1).take 1) (H.decl 29 t (H.push 0 (mapA (tr H N) (l.take 1) s).1)).1
   have h7:=ih ((l.drop 1).drop 1) (H.pop (mapA (tr H N) ((l.drop 1).take 1) (H.decl 29 t (H.push 0 (mapA (tr H N) (l.take 1) s).1)).1).1)
   have h5:=wgs_cut l 1
   have h8:=wgs_cut (l.drop 1) 1
   have h6:Pars.sizes (l.take 1) * M+Pars.sizes (l.drop 1) * M=Pars.sizes l * M:=by rw[←Nat.add_mul,sizes_cut]
   have h9:Pars.sizes ((l.drop 1).take 1) * M+Pars.sizes ((l.drop 1).drop 1) * M=Pars.sizes (l.drop 1) * M:=by rw[←Nat.add_mul,sizes_cut]
   simp only[Wri.wg]
   rw[wgs_app,wgs_app]
   omega
  ·have:=ih l s;simp only[Wri.wg];omega
theorem look_size {known:List Bs} {dk:Int} {nm:Bs} (n:Node) (h:Pars.size n≤1048576):Pars.size (look known dk nm n).2≤1048576:=by
 unfold look
 split
 ·simp[zero,Pars.size,Pars.sizes]
 ·split
  ·simp[zero,Pars.size,Pars.sizes]
  ·unfold run;rw[tr_size];exact h
theorem look_wg {known:List Bs} {dk:Int} {nm:Bs} (n:Node) (h:Pars.size n≤1048576) (hn:nm.length≤2000):Wri.wg (look known dk nm n).2≤Wri.wg n+4194304000:=by
 unfold look
 split
 ·simp[zero,Wri.wg,Wri.wgs]
 ·split
  ·simp[zero,Wri.wg,Wri.wgs]
  ·have h1:=tr_wg (lengthens known dk nm) (Pars.deep n) n start
   have h2:Pars.size n * nm.length≤1048576 * 2000:=Nat.mul_le_mul h hn
   show Wri.wg (tr _ _ n start).2≤_
   omega
theorem run_few {known:List Bs} {dk:Int} {nm:Bs} {n:Node} (h:Pars.size n≤1048576):(run known dk nm n).1.decls.length≤4000000∧(run known dk nm n).1.uses.length≤4000000:=by
 have h1:=tr_cnt (known:=known) (dk:=dk) (nm:=nm) (Pars.deep n) n start
 have h2:cnt start=0:=rfl
 have h3:cnt (run known dk nm n).1+1≤0+2 * Pars.size n:=by rw[←h2];exact h1
 unfold cnt at h3
 omega
end Scopy
namespace Go.Proofs.YtflmjbmdmoifhaaGreatDoor
open Go.Lib (hid)
open Go.RowKit
abbrev KT:=Lexy.Tk×Int×Int
theorem info_tok:(Tryz.prog.info? 58).map (·.size)=some 5:=by kernel_rfl
theorem info_nod:(Tryz.prog.info? 24).map (·.size)=some 4:=by kernel_rfl
structure PSt (w:World) (b:Nat) (ts:List KT) (A:Option Addr) (c k:Nat) (fn lp:Bool):Prop where
 box:Box w b 108 (pc (.slice A ts.length c) k fn lp)
 ks:KRd w ts (.slice A ts.length c)
 kle:k≤ts.length
 ne:∀g o,A=some ⟨g,o,none⟩→g≠b
 len:ts.length≤1000
theorem PSt.below {w w1:World} {b:Nat} {ts:List KT} {A:Option Addr} {c k:Nat} {fn lp:Bool} (h:PSt w b ts A c k fn lp) (hb:Below w.heap.size w w1):PSt w1 b ts A c k fn lp:=
 ⟨h.box.below hb h.box.lt,Rd.below h.ks hb,h.kle,h.ne,h.len⟩
theorem PSt.upd {w w1:World} {b:Nat} {ts:List KT} {A:Option Addr} {c k k1:Nat} {fn lp fn1 lp1:Bool} (h:PSt w b ts A c k fn lp) (hx:Box w1 b 108 (pc (.slice A ts.length c) k1 fn1 lp1)) (hu:Upd w w1 b) (hk:k1≤ts.length):PSt w1 b ts A c k1 fn1 lp1:=by
 refine⟨hx,?_,hk,h.ne,h.len⟩
 obtain⟨A',cap,e,h1,h2,h3⟩:=h.ks
 refine⟨A',cap,e,h1,h2,fun hn=> ?_⟩
 obtain⟨g,o,rfl,hg,hr⟩:=h3 hn
 injection e with e _ _
 have hz:=hu.size
 refine⟨g,o,rfl,by omega,fun i u hi=> ?_⟩
 rw[World.cell?_of_block (hu.block g hg (by intro x;injection x with x;exact h.ne g o e x))]
 exact hr i u hi
def left (ts:List KT) (k:Nat):List Lexy.Tk:=(toks ts).drop k
theorem left_cons {ts:List KT} {k:Nat} {t:KT} (h:ts[k]? =some t):left ts k=t.1 :: left ts (k+1):=by
 have h1:(toks ts)[k]? =some t.1:=by unfold toks;rw[List.getElem?_map,h];rfl
 have hlt:=(List.getElem?_eq_some_iff.1 h1).1
 unfold left
 rw[List.drop_eq_getElem_cons hlt,(List.getElem?_eq_some_iff.1 h1).2]
theorem left_nil {ts:List KT} {k:Nat} (h:ts.length≤k):left ts k=[]:=by unfold left;exact List.drop_eq_nil_of_le (by simpa [toks] using h)
def here (ts:List KT) (k:Nat):Array Value:=match ts[k]? with
 | some t=>kc t
 | none=> #[.int .i64 0,.int .i64 0,.int .i64 0,.string ⟨#[]⟩,.int .i64 0]
theorem same_yes (A:ByteArray):(A.toList==A.toList)=true∧decide (A.toList=A.toList)=true:=by simp
theorem same_no {A B:ByteArray} (h:A≠B):(A.toList==B.toList)=false∧decide (A.toList=B.toList)=false∧decide (A=B)=false:=by
 have h1:¬A.toList=B.toList:=fun e=>h (by cases A;cases B;simpa [ByteArray.toList_eq] using e)
 exact⟨bn h1,decide_eq_false h1,decide_eq_false h⟩
theorem tz_one:(#[.int .i64 0,.int .i64 0,.int .i64 0,.string ⟨#[]⟩,.int .i64 0]:Array Value).all (·.oneCell')=true:=by simp[Value.oneCell']
theorem ktok_one (ts:List KT) (k:Nat):(here ts k).all (·.oneCell')=true:=by
 unfold here
 split
 ·exact kc_one _
 ·simp[Value.oneCell']
theorem ktok_size (ts:List KT) (k:Nat):(here ts k).size=5:=by unfold here;split<;>rfl
set_option maxRecDepth 100000 in
set_option maxHeartbeats 4000000 in
theorem peek_any (w:World) (b:Nat) (ts:List KT) (A:Option Addr) (c k:Nat) (fn lp:Bool) (h:PSt w b ts A c k fn lp):
  Calls Tryz.prog 85 #[.pointer (some ⟨b,0,none⟩)] w fun e w'=>e= .returned (.agg (here ts k))∧Below w.heap.size w w':=by
 have hb:=h.box
 have hkle:=h.kle
 have HKS:=hid h.ks
 have hlt:=hb.lt
 obtain⟨n,hn⟩:∃n,ts.length=n:=⟨_,rfl⟩
 have HN:=hid hn
 rw[hn] at hb hkle
 clear hn h
 go_enter Tryz.func85,Tryz.ntmps85
 go_upto_region 1 with fail
 have HR0:=hid (Box.new w 58 #[.int .i64 0,.int .i64 0,.int .i64 0,.string ⟨#[]⟩,.int .i64 0])
 have hU0:Below w.heap.size w (w.alloc (.cells #[.int .i64 0,.int .i64 0,.int .i64 0,.string ⟨#[]⟩,.int .i64 0] 58)):=below1 w _
 have hb1:=hb.below hU0 hlt
 obtain⟨W0,hW0⟩:∃W0,(w.alloc (.cells #[.int .i64 0,.int .i64 0,.int .i64 0,.string ⟨#[]⟩,.int .i64 0] 58))=W0:=⟨_,rfl⟩
 rw[hW0] at HR0 hU0 hb1
 rw[hW0]
 clear hW0 hb
 have HU0:=hid hU0
 have c0:=hb1.cell 0
 have c1:=hb1.cell 1
 simp[pc] at c0 c1
 clear hb1 hU0
 by_cases y:k<n
 ·have d1:decide ((k:Int)<(n:Int))=true:=decide_eq_true (by omega)
  have d2:(k:Int)<(n:Int):=by omega
  obtain⟨t,ht⟩:∃t,ts[k]? =some t:=⟨_,List.getElem?_eq_getElem (by rw[HN.out];exact y)⟩
  have HH:Hid (here ts k=kc t):=hid (by unfold here;rw[ht])
  obtain⟨X,cx,e1,h1,h2,h3⟩:=HKS.out
  injection e1 with e1 _ e2
  subst e1 e2
  obtain⟨g0,o0,rfl,hg0,hr0⟩:=h3 (by rw[HN.out];omega)
  have hrow:=RdL.elem (k:=5) (f:=kc) (fun _=>rfl) hr0 ht
  have HROW:Hid (W0.rangeAt g0 (o0+k * 5) (kc t).toList):=hid (fun i u hu=>by rw[HU0.out.cell (p:=⟨g0,o0+k * 5+i,none⟩) hg0];exact hrow i u hu)
  have hg0':=HU0.out.size
  clear y ht h1 h2 h3 hr0 hrow HKS
  go_quiet (fail)
  go_upto_region 2 with fail
  obtain⟨W1,hW1⟩:∃W1,W0.drewN nq=W1:=⟨_,rfl⟩
  have hd1:Below W0.heap.size W0 W1:=hW1 ▸ below_drewN (Below.refl _ W0) nq
  rw[hW1]
  have c0:=(hd1.cell (p:=⟨b,0,none⟩) (block_lt_of_cell c0)).trans c0
  have c1:=(hd1.cell (p:=⟨b,1,none⟩) (block_lt_of_cell c1)).trans c1
  have HROW:Hid (W1.rangeAt g0 (o0+k * 5) (kc t).toList):=hid (fun i u hu=>by rw[hd1.cell (p:=⟨g0,o0+k * 5+i,none⟩) (by show g0<_;omega)];exact HROW.out i u hu)
  have HR1:=bl HR0 hd1
  have HU1:=hid (HU0.out.trans (hd1.mono HU0.out.size))
  clear hW1 hd1
  refine wp_region_held_drew (S:=fun w'=>w'.cell? ⟨b,0,none⟩=some (.slice (some ⟨g0,o0,none⟩) n c)∧w'.cell? ⟨b,1,none⟩=some (.int .i64 (k:Int))∧w'.rangeAt g0 (o0+k * 5) (kc t).toList∧Below w.heap.size w w') (by kernel_rfl) ⟨c0,c1,HROW.out,HU1.out.drew⟩ (fun hHeld=> ?_)
  refine tH (i:=0) (v:= ?_) rfl ?_ (by assumption) ?_
  rotate_left
  ·intro w hSw
   obtain⟨s1,s2,s3,s4⟩:=hSw
   go_simp
   try (with_reducible rfl)
  (try simp only[Act.put,sq])
  refine tH (i:=1) (v:= ?_) rfl ?_ (by assumption) ?_
  rotate_left
  ·intro w hSw
   obtain⟨s1,s2,s3,s4⟩:=hSw
   go_simp
   try (with_reducible rfl)
  (try simp only[Act.put,sq])
  refine tH (i:=2) (v:= ?_) rfl ?_ (by assumption) ?_
  rotate_left
  ·intro w hSw
   obtain⟨s1,s2,s3,s4⟩:=hSw
   go_simp
   try (with_reducible rfl)
  (try simp only[Act.put,sq])
  refine tH (i:=3) (v:= ?_) rfl ?_ (by assumption) ?_
  rotate_left
  ·intro w hSw
   obtain⟨s1,s2,s3,s4⟩:=hSw
   go_simp
   try (with_reducible rfl)
  (try simp only[Act.put,sq])
  refine tH (i:=4) (v:= ?_) rfl ?_ (by assumption) ?_
  rotate_left
  ·intro w hSw
   obtain⟨s1,s2,s3,s4⟩:=hSw
   go_simp
   try (with_reducible rfl)
  (try simp only[Act.put,sq])
  refine tH (i:=5) (v:= ?_) rfl ?_ (by assumption) ?_
  rotate_left
  ·intro w hSw
   obtain⟨s1,s2,s3,s4⟩:=hSw
   go_simp
   try (with_reducible rfl)
  (try simp only[Act.put,sq])
  refine tH (i:=6) (v:= ?_) rfl ?_ (by assumption) ?_
  rotate_left
  ·intro w hSw
   obtain⟨s1,s2,s3,s4⟩:=hSw
   go_simp
   try (with_reducible rfl)
  (try simp only[Act.put,sq])
  refine tH (i:=7) (v:= ?_) rfl ?_ (by assumption) ?_
  rotate_left
  ·intro w hSw
   obtain⟨s1,s2,s3,s4⟩:=hSw
   go_simp
   try (with_reducible rfl)
  (try simp only[Act.put,sq])
  refine tH (i:=8) (v:= .pointer (some ⟨g0,o0+k * 5,none⟩)) rfl ?_ (by assumption) ?_
  ·intro w hSw
   obtain⟨s1,s2,s3,s4⟩:=hSw
   go_simp
  (try simp only[Act.put,sq])
  refine wpAnyH_take (i:=9) (v:=_) rfl (by kernel_rfl) (by kernel_rfl) (by kernel_rfl) (fun _ _ _ h=>h) (yieldsIf_load_mid (by kernel_rfl) 58 (.tmp 21) rfl (g0) (o0+k * 5) rfl ((kc t).toList) _ (fun _ h=>h.2.2.1) Tryz.underlying58 rfl info_tok) (by assumption) ?_
  (try simp only[Act.put,sq])
  have hzz1:=HR1.out.lt
  have hzz2:=HU1.out.size
  refine rdH 10 rfl fun K hK=> ?_
  refine step_store_box rfl 58 (.tmp 2) (.tmp 22) rfl w.heap.size (kc t) rfl rfl 58 _ (Box.drew HR1.out) info_tok rfl (kc_one t) ?_
  intro wz hxz huz hzz
  refine hK.out _ _ ⟨(World.cell?_of_block (huz.block b (by show b<_;first | omega | (simp;omega)) (by simp;omega))).trans hHeld.1,(World.cell?_of_block (huz.block b (by show b<_;first | omega | (simp;omega)) (by simp;omega))).trans hHeld.2.1,fun i u hu=>(World.cell?_of_block (huz.block g0 (by show g0<_;first | omega | (simp;omega)) (by simp;omega))).trans (hHeld.2.2.1 i u hu),hHeld.2.2.2.trans (huz.own (Nat.le_refl _) hHeld.2.2.2.size)⟩ (fun hHeld=> ?_)
  clear hK K
  (try simp only[Act.put,sq])
  refine wpAnyH_done (by kernel_rfl) ?_ _
  go_wp2
  refine bodyPost_ret (results_box rfl _ _ w.heap.size 58 _ _ rfl hxz Tryz.underlying58 rfl info_tok) rfl ?_
  exact⟨by rw[HH.out],hHeld.2.2.2⟩
 ·have d1:decide ((k:Int)<(n:Int))=false:=decide_eq_false (by omega)
  have d2:¬(k:Int)<(n:Int):=by omega
  have HH:Hid (here ts k= #[.int .i64 0,.int .i64 0,.int .i64 0,.string ⟨#[]⟩,.int .i64 0]):=hid (by unfold here;rw[List.getElem?_eq_none (by rw[HN.out];omega)])
  clear y
  go_quiet (fail)
  obtain⟨W1,hW1⟩:∃W1,W0.drewN nq=W1:=⟨_,rfl⟩
  have hd1:Below W0.heap.size W0 W1:=hW1 ▸ below_drewN (Below.refl _ W0) nq
  rw[hW1]
  have HR1:=bl HR0 hd1
  have HU1:=hid (HU0.out.trans (hd1.mono HU0.out.size))
  clear hW1 hd1 c0 c1
  go_wp2_with (refine wpList_store_box rfl 58 (.tmp 2) (.tmp 23) rfl w.heap.size #[.int .i64 0,.int .i64 0,.int .i64 0,.string ⟨#[]⟩,.int .i64 0] rfl rfl 58 _ HR1.out info_tok rfl tz_one ?_;intro wz hxz huz hzz;have HZZ:=hid hzz;clear hzz)
  refine bodyPost_ret (results_box rfl _ _ w.heap.size 58 _ _ rfl hxz Tryz.underlying58 rfl info_tok) rfl ?_
  exact⟨by rw[HH.out],HU1.out.trans (huz.own (Nat.le_refl _) HU1.out.size)⟩
def SL:Value:= .iface 104 (.agg #[])
def IsOut (s:List UInt8) (w:World) (b:Nat) (ts:List KT) (A:Option Addr) (c k:Nat) (fn lp:Bool) (e:Ending) (w':World):Prop:=
 (Pars.is s (left ts k)=some (left ts (k+1))∧k<ts.length∧e= .returned (.bool true)∧Box w' b 108 (pc (.slice A ts.length c) (k+1) fn lp)∧Upd w w' b)∨
 (Pars.is s (left ts k)=none∧e= .returned (.bool false)∧Box w' b 108 (pc (.slice A ts.length c) k fn lp)∧Upd w w' b)
set_option maxRecDepth 100000 in
set_option maxHeartbeats 4000000 in
theorem is_any (s:List UInt8) (w:World) (b:Nat) (ts:List KT) (A:Option Addr) (c k:Nat) (fn lp:Bool) (h:PSt w b ts A c k fn lp):
  Calls Tryz.prog 73 #[.pointer (some ⟨b,0,none⟩),.string (byt s)] w (IsOut s w b ts A c k fn lp):=by
 have HP:=hid (peek_any w b ts A c k fn lp h)
 have hlt:=h.box.lt
 have HB:=hid h.box
 have hlen:=h.len
 have hkle:=h.kle
 clear h
 by_cases y:k<ts.length
 ·obtain⟨t,ht⟩:∃t,ts[k]? =some t:=⟨_,List.getElem?_eq_getElem y⟩
  have HH:Hid (here ts k=kc t):=hid (by unfold here;rw[ht])
  have HL:=hid (left_cons ht)
  rw[HH.out] at HP
  have HY:=hid y
  obtain⟨S,hS⟩:∃S,byt s=S:=⟨_,rfl⟩
  rw[hS]
  have HS:=hid hS
  obtain⟨KD,hKD⟩:∃K,t.1.kind=K:=⟨_,rfl⟩
  obtain⟨TX,hTX⟩:∃K,byt t.1.text=K:=⟨_,rfl⟩
  have HKD:=hid hKD
  have HTX:=hid hTX
  obtain⟨tcs,htcs⟩:∃K,kc t=K:=⟨_,rfl⟩
  have htc0:tcs[0]? =some (.int .i64 (KD:Int)):=by rw[←htcs, ←hKD];rfl
  have htc3:tcs[3]? =some (.string TX):=by rw[←htcs, ←hTX];rfl
  have htsz:(Tryz.prog.info? 58).map (·.size)=some tcs.size:=by rw[←htcs];exact info_tok
  have ht5:(5:Nat)=tcs.size:=by rw[←htcs];rfl
  have hto:tcs.all (·.oneCell')=true:=by rw[←htcs];exact kc_one t
  rw[htcs] at HP
  have HT0:=hid htc0
  have HT3:=hid htc3
  have HTS:=hid htsz
  have HT5:=hid ht5
  have HTO:=hid hto
  clear y ht hS hKD hTX htcs htc0 htc3 htsz ht5 hto
  go_enter Tryz.func73,Tryz.ntmps73
  go_wp2_with fail
  refine HP.out.mono ?_
  rintro e w1 ⟨rfl,hb1⟩
  go_upto_region 2 with (refine wpList_store_box rfl 58 (.tmp 5) (.tmp 7) rfl w1.heap.size tcs rfl rfl 58 _ (Box.new w1 _ _) HTS.out HT5.out HTO.out ?_;intro w2 hx2 hu2 hz2;have HZ2:=hid hz2;clear hz2)
  have hb2:Below w1.heap.size w1 w2:=((Below.refl _ w1).alloc (Nat.le_refl _) _).trans (hu2.own (Nat.le_refl _) (by simp))
  have HB2:=hid ((HB.out.below hb1 HB.out.lt).below hb2 (HB.out.below hb1 HB.out.lt).lt)
  have HU2:=hid (hb1.trans (hb2.mono hb1.size))
  have k0:=(hx2.cell 0).trans HT0.out
  have k3:=(hx2.cell 3).trans HT3.out
  have kb:=HB2.out.cell 1
  simp[pc] at kb
  have kf:w2.frozen? ⟨b,1,none⟩=false:=HB2.out.frozen 1
  have wk:IntKind.i64.wrap ((k:Int)+1)=(k:Int)+1:=by rw[IntKind.wrap_i64];omega
  have hne:b≠w1.heap.size:=by have:=hb1.size;omega
  clear hb1 hb2 hu2 hx2
  by_cases y4:KD=4∨KD=5
  ·by_cases yt:TX=S
   ·subst yt
    have hst:Hid (Pars.is s (left ts k)=some (left ts (k+1))):=hid (by
     rw[HL.out]
     simp only[Pars.is]
     rw[if_pos ⟨by rw[HKD.out];exact y4,byt_inj (by rw[HTX.out,HS.out])⟩])
    obtain⟨q1,q2⟩:=same_yes TX
    rcases y4 with rfl | rfl
    ·skip
     go_wp2
     go_ret
     have hB3:=HB2.out.set 1 (.int .i64 ((k:Int)+1))
     exact .inl ⟨hst.out,HY.out,rfl,hB3,(Upd.below HU2.out b).set (.inl rfl) _⟩
    ·skip
     go_wp2
     go_ret
     have hB3:=HB2.out.set 1 (.int .i64 ((k:Int)+1))
     exact .inl ⟨hst.out,HY.out,rfl,hB3,(Upd.below HU2.out b).set (.inl rfl) _⟩
   ·have hst:Hid (Pars.is s (left ts k)=none):=hid (by
     rw[HL.out]
     simp only[Pars.is]
     rw[if_neg (fun h=>yt (by rw[←HTX.out, ←HS.out,h.2]))])
    obtain⟨q1,q2,q3⟩:=same_no yt
    have q4:=of_decide_eq_false q2
    rcases y4 with rfl | rfl
    ·skip
     go_wp2
     go_ret
     exact .inr ⟨hst.out,rfl,HB2.out,Upd.below HU2.out b⟩
    ·skip
     go_wp2
     go_ret
     exact .inr ⟨hst.out,rfl,HB2.out,Upd.below HU2.out b⟩
  ·have hst:Hid (Pars.is s (left ts k)=none):=hid (by
    rw[HL.out]
    simp only[Pars.is]
    rw[if_neg (fun h=>y4 (by rw[←HKD.out];exact h.1))])
   have n4:((KD:Int) != 4)=true:=by rw[bne_iff_ne];omega
   have n5:((KD:Int) != 5)=true:=by rw[bne_iff_ne];omega
   clear y4
   skip
   go_wp2
   go_ret
   exact .inr ⟨hst.out,rfl,HB2.out,Upd.below HU2.out b⟩
 ·have HH:Hid (here ts k= #[.int .i64 0,.int .i64 0,.int .i64 0,.string ⟨#[]⟩,.int .i64 0]):=hid (by unfold here;rw[List.getElem?_eq_none (by omega)])
  have HL:=hid (left_nil (ts:=ts) (k:=k) (by omega))
  rw[HH.out] at HP
  obtain⟨S,hS⟩:∃S,byt s=S:=⟨_,rfl⟩
  rw[hS]
  clear y hS
  go_enter Tryz.func73,Tryz.ntmps73
  go_wp2_with fail
  refine HP.out.mono ?_
  rintro e w1 ⟨rfl,hb1⟩
  go_upto_region 2 with (refine wpList_store_box rfl 58 (.tmp 5) (.tmp 7) rfl w1.heap.size #[.int .i64 0,.int .i64 0,.int .i64 0,.string ⟨#[]⟩,.int .i64 0] rfl rfl 58 _ (Box.new w1 _ _) info_tok rfl tz_one ?_;intro w2 hx2 hu2 hz2;have HZ2:=hid hz2;clear hz2)
  have hb2:Below w1.heap.size w1 w2:=((Below.refl _ w1).alloc (Nat.le_refl _) _).trans (hu2.own (Nat.le_refl _) (by simp))
  have HB2:=hid ((HB.out.below hb1 HB.out.lt).below hb2 (HB.out.below hb1 HB.out.lt).lt)
  have HU2:=hid (hb1.trans (hb2.mono hb1.size))
  have k0:=hx2.cell 0
  have k3:=hx2.cell 3
  simp at k0 k3
  clear hb1 hb2 hu2 hx2
  go_wp2
  go_ret
  exact .inr ⟨by rw[HL.out];rfl,rfl,HB2.out,Upd.below HU2.out b⟩
def slipped:List PanicEntry:=[{v:=SL,recovered:=false}]
def MustOut (s:List UInt8) (w:World) (b:Nat) (ts:List KT) (A:Option Addr) (c k:Nat) (fn lp:Bool) (e:Ending) (w':World):Prop:=
 (Pars.is s (left ts k)=some (left ts (k+1))∧k<ts.length∧e= .returned (.tuple #[])∧Box w' b 108 (pc (.slice A ts.length c) (k+1) fn lp)∧Upd w w' b)∨
 (Pars.is s (left ts k)=none∧e= .panicked slipped∧Upd w w' b)
set_option maxRecDepth 100000 in
set_option maxHeartbeats 4000000 in
theorem must_any (s:List UInt8) (w:World) (b:Nat) (ts:List KT) (A:Option Addr) (c k:Nat) (fn lp:Bool) (h:PSt w b ts A c k fn lp):
  Calls Tryz.prog 75 #[.pointer (some ⟨b,0,none⟩),.string (byt s)] w (MustOut s w b ts A c k fn lp):=by
 have HI:=hid (is_any s w b ts A c k fn lp h)
 clear h
 go_enter Tryz.func75,Tryz.ntmps75
 go_wp2_with fail
 refine HI.out.mono ?_
 rintro e w1 (⟨h1,h2,rfl,h3,h4⟩ | ⟨h1,rfl,h3,h4⟩)
 ·have H1:=hid h1
  have H3:=hid h3
  have H4:=hid h4
  clear h1 h3 h4
  go_wp2
  go_end0
  exact .inl ⟨H1.out,h2,rfl,H3.out,H4.out⟩
 ·have H1:=hid h1
  have H4:=hid h4
  clear h1 h3 h4
  go_wp2
  exact⟨rfl,.inr ⟨H1.out,rfl,H4.out⟩⟩
theorem within_any (is:Bool) (w:World):Calls Tryz.prog 83 #[.bool is] w fun e w'=>(e=if is=true then .returned (.tuple #[]) else .panicked slipped)∧w'=w:=by
 cases is
 ·go_enter Tryz.func83,Tryz.ntmps83
  go_wp2
  exact⟨rfl,rfl,rfl⟩
 ·go_enter Tryz.func83,Tryz.ntmps83
  go_wp2
  go_end0
  exact⟨rfl,rfl⟩
def NameOut (w:World) (b:Nat) (ts:List KT) (A:Option Addr) (c k:Nat) (fn lp:Bool) (e:Ending) (w':World):Prop:=
 (∃t:KT,ts[k]? =some t∧t.1.kind=1∧k<ts.length∧e= .returned (.string (byt t.1.text))∧Box w' b 108 (pc (.slice A ts.length c) (k+1) fn lp)∧Upd w w' b)∨
 ((∀t,ts[k]? =some t→t.1.kind≠1)∧e= .panicked slipped∧Upd w w' b)
set_option maxRecDepth 100000 in
set_option maxHeartbeats 4000000 in
theorem name_any (w:World) (b:Nat) (ts:List KT) (A:Option Addr) (c k:Nat) (fn lp:Bool) (h:PSt w b ts A c k fn lp):
  Calls Tryz.prog 74 #[.pointer (some ⟨b,0,none⟩)] w (NameOut w b ts A c k fn lp):=by
 have HP:=hid (peek_any w b ts A c k fn lp h)
 have hlt:=h.box.lt
 have HB:=hid h.box
 have hlen:=h.len
 have hkle:=h.kle
 clear h
 by_cases y:k<ts.length
 ·obtain⟨t,ht⟩:∃t,ts[k]? =some t:=⟨_,List.getElem?_eq_getElem y⟩
  have HH:Hid (here ts k=kc t):=hid (by unfold here;rw[ht])
  rw[HH.out] at HP
  have HY:=hid y
  have HT:=hid ht
  obtain⟨KD,hKD⟩:∃K,t.1.kind=K:=⟨_,rfl⟩
  obtain⟨TX,hTX⟩:∃K,byt t.1.text=K:=⟨_,rfl⟩
  have HKD:=hid hKD
  have HTX:=hid hTX
  obtain⟨tcs,htcs⟩:∃K,kc t=K:=⟨_,rfl⟩
  have htc0:tcs[0]? =some (.int .i64 (KD:Int)):=by rw[←htcs, ←hKD];rfl
  have htc3:tcs[3]? =some (.string TX):=by rw[←htcs, ←hTX];rfl
  have htsz:(Tryz.prog.info? 58).map (·.size)=some tcs.size:=by rw[←htcs];exact info_tok
  have ht5:(5:Nat)=tcs.size:=by rw[←htcs];rfl
  have hto:tcs.all (·.oneCell')=true:=by rw[←htcs];exact kc_one t
  rw[htcs] at HP
  have HT0:=hid htc0
  have HT3:=hid htc3
  have HTS:=hid htsz
  have HT5:=hid ht5
  have HTO:=hid hto
  clear y ht hKD hTX htcs htc0 htc3 htsz ht5 hto
  go_enter Tryz.func74,Tryz.ntmps74
  go_wp2_with fail
  refine HP.out.mono ?_
  rintro e w1 ⟨rfl,hb1⟩
  go_upto_region 2 with (refine wpList_store_box rfl 58 (.tmp 3) (.tmp 5) rfl w1.heap.size tcs rfl rfl 58 _ (Box.new w1 _ _) HTS.out HT5.out HTO.out ?_;intro w2 hx2 hu2 hz2;have HZ2:=hid hz2;clear hz2)
  have hb2:Below w1.heap.size w1 w2:=((Below.refl _ w1).alloc (Nat.le_refl _) _).trans (hu2.own (Nat.le_refl _) (by simp))
  have HB2:=hid ((HB.out.below hb1 HB.out.lt).below hb2 (HB.out.below hb1 HB.out.lt).lt)
  have HU2:=hid (hb1.trans (hb2.mono hb1.size))
  have k0:=(hx2.cell 0).trans HT0.out
  have k3:=(hx2.cell 3).trans HT3.out
  have kb:=HB2.out.cell 1
  simp[pc] at kb
  have kf:w2.frozen? ⟨b,1,none⟩=false:=HB2.out.frozen 1
  have wk:IntKind.i64.wrap ((k:Int)+1)=(k:Int)+1:=by rw[IntKind.wrap_i64];omega
  have hne:b≠w1.heap.size:=by have:=hb1.size;omega
  have hne2:w1.heap.size≠b:=fun e=>hne e.symm
  clear hb1 hb2 hu2 hx2
  by_cases y1:KD=1
  ·subst y1
   go_wp2
   go_ret
   have hB3:=HB2.out.set 1 (.int .i64 ((k:Int)+1))
   exact .inl ⟨t,HT.out,HKD.out,HY.out,by rw[HTX.out]<;>rfl,hB3,(Upd.below HU2.out b).set (.inl rfl) _⟩
  ·have n1:((KD:Int) != 1)=true:=by rw[bne_iff_ne];omega
   have HY1:=hid y1
   clear y1
   go_wp2
   exact⟨rfl,.inr ⟨fun t' ht'=>by rw[HT.out] at ht';injection ht' with ht';rw[←ht',HKD.out];exact HY1.out,rfl,Upd.below HU2.out b⟩⟩
 ·have HH:Hid (here ts k= #[.int .i64 0,.int .i64 0,.int .i64 0,.string ⟨#[]⟩,.int .i64 0]):=hid (by unfold here;rw[List.getElem?_eq_none (by omega)])
  have HN:Hid (ts[k]? =none):=hid (List.getElem?_eq_none (by omega))
  rw[HH.out] at HP
  clear y
  go_enter Tryz.func74,Tryz.ntmps74
  go_wp2_with fail
  refine HP.out.mono ?_
  rintro e w1 ⟨rfl,hb1⟩
  go_upto_region 2 with (refine wpList_store_box rfl 58 (.tmp 3) (.tmp 5) rfl w1.heap.size #[.int .i64 0,.int .i64 0,.int .i64 0,.string ⟨#[]⟩,.int .i64 0] rfl rfl 58 _ (Box.new w1 _ _) info_tok rfl tz_one ?_;intro w2 hx2 hu2 hz2;have HZ2:=hid hz2;clear hz2)
  have hb2:Below w1.heap.size w1 w2:=((Below.refl _ w1).alloc (Nat.le_refl _) _).trans (hu2.own (Nat.le_refl _) (by simp))
  have HU2:=hid (hb1.trans (hb2.mono hb1.size))
  have k0:=hx2.cell 0
  simp at k0
  clear hb1 hb2 hu2 hx2
  go_wp2
  exact⟨rfl,.inr ⟨fun t' ht'=>by rw[HN.out] at ht';exact absurd ht' (by simp),rfl,Upd.below HU2.out b⟩⟩
end Go.Proofs.YtflmjbmdmoifhaaGreatDoor
namespace Go.Proofs.YtflmjbmdmoifhaaGreatDoor
open Go.Lib (hid)
open Go.RowKit
theorem gen_world {P:Program} {c:Code} {Q:Exit→Act→World→Prop} {a:Act} {w0:World} {F:World→Prop} (hf:F w0) (h:∀W,F W→Code.wp P c Q a W):Code.wp P c Q a w0:=h w0 hf
theorem NodeAt.weak {w:World} {S S1:Nat→Prop} {n:Pars.Node} {cs:Array Value} (h:NodeAt w S n cs) (hs:∀g,S g→S1 g):NodeAt w S1 n cs:=NodeAt.keep (fun g h _=>hs g h) (Nat.le_refl _) (fun _ _ _=>rfl) h
theorem NodeAt.below {w w1:World} {S:Nat→Prop} {n:Pars.Node} {cs:Array Value} (h:NodeAt w S n cs) (hb:Below w.heap.size w w1):NodeAt w1 S n cs:=NodeAt.keep (fun _ h _=>h) hb.size (fun g _ hg=>hb.block g hg) h
theorem NodeAt.upd {w w1:World} {S:Nat→Prop} {n:Pars.Node} {cs:Array Value} {r:Nat} (h:NodeAt w S n cs) (hu:Upd w w1 r) (hr:∀g,S g→g≠r):NodeAt w1 S n cs:=NodeAt.keep (fun _ h _=>h) hu.size (fun g hs hg=>hu.block g hg (by intro e;injection e with e;exact hr g hs e)) h
theorem Upd.fresh {w w1 w2:World} {b r:Nat} (h:Upd w w1 b) (hu:Upd w1 w2 r) (hr:w.heap.size≤r):Upd w w2 b:=by
 have hz:=h.size
 refine⟨hu.os.trans h.os,hu.tape.trans h.tape,hu.output.trans h.output,Nat.le_trans h.size hu.size,fun i hi hn=> ?_⟩
 rw[hu.block i (by omega) (by intro e;injection e with e;omega),h.block i hi hn]
theorem left_len (ts:List KT) (k:Nat):(left ts k).length=ts.length - k:=by unfold left toks;simp
def Got (w:World) (b:Nat) (ts:List KT) (A:Option Addr) (c k:Nat) (fn lp:Bool) (r:Pars.R) (e:Ending) (w':World):Prop:=
 (∃x k' cs,r=some (x,left ts k')∧k≤k'∧k'≤ts.length∧e= .returned (.agg cs)∧NodeAt w' (fun g=>w.heap.size≤g) x cs∧Box w' b 108 (pc (.slice A ts.length c) k' fn lp)∧Upd w w' b)∨
 (r=none∧e= .panicked slipped∧Upd w w' b)
theorem got_lt {n:Nat} {nt:Pars.Nt} {fn lp:Bool} {ts:List KT} {k k':Nat} {x:Pars.Node} (h:Pars.run n nt fn lp (left ts k)=some (x,left ts k')) (hp:Pars.passes nt=true):k<k':=by
 have:=Pars.run_passes h hp
 rw[left_len,left_len] at this
 omega
structure All (n:Nat):Prop where
 block:∀{w:World} {b:Nat} {ts:List KT} {A:Option Addr} {c k:Nat} {fn lp:Bool},PSt w b ts A c k fn lp→20 * (ts.length - k)+1<n→Calls Tryz.prog 86 #[.pointer (some ⟨b,0,none⟩)] w (Got w b ts A c k fn lp (Pars.run n .block fn lp (left ts k)))
 stmt:∀{w:World} {b:Nat} {ts:List KT} {A:Option Addr} {c k:Nat} {fn lp:Bool},PSt w b ts A c k fn lp→20 * (ts.length - k)+14<n→Calls Tryz.prog 53 #[.pointer (some ⟨b,0,none⟩)] w (Got w b ts A c k fn lp (Pars.run n .statement fn lp (left ts k)))
 expr:∀{w:World} {b:Nat} {ts:List KT} {A:Option Addr} {c k:Nat} {fn lp:Bool},PSt w b ts A c k fn lp→20 * (ts.length - k)+12<n→Calls Tryz.prog 76 #[.pointer (some ⟨b,0,none⟩)] w (Got w b ts A c k fn lp (Pars.run n .expression fn lp (left ts k)))
 cond:∀{w:World} {b:Nat} {ts:List KT} {A:Option Addr} {c k:Nat} {fn lp:Bool},PSt w b ts A c k fn lp→20 * (ts.length - k)+11<n→Calls Tryz.prog 103 #[.pointer (some ⟨b,0,none⟩)] w (Got w b ts A c k fn lp (Pars.run n .cond fn lp (left ts k)))
 un:∀{w:World} {b:Nat} {ts:List KT} {A:Option Addr} {c k:Nat} {fn lp:Bool},PSt w b ts A c k fn lp→20 * (ts.length - k)+3<n→Calls Tryz.prog 122 #[.pointer (some ⟨b,0,none⟩)] w (Got w b ts A c k fn lp (Pars.run n .unary fn lp (left ts k)))
 first:∀{w:World} {b:Nat} {ts:List KT} {A:Option Addr} {c k:Nat} {fn lp:Bool},PSt w b ts A c k fn lp→20 * (ts.length - k)+2<n→Calls Tryz.prog 131 #[.pointer (some ⟨b,0,none⟩)] w (Got w b ts A c k fn lp (Pars.run n .first fn lp (left ts k)))
 inner:∀{w:World} {b:Nat} {ts:List KT} {A:Option Addr} {c k:Nat} {fn lp:Bool},PSt w b ts A c k fn lp→20 * (ts.length - k)+1<n→Calls Tryz.prog 80 #[.pointer (some ⟨b,0,none⟩)] w (Got w b ts A c k fn lp (Pars.run n .inner fn lp (left ts k)))
 ifs:∀{w:World} {b:Nat} {ts:List KT} {A:Option Addr} {c k:Nat} {fn lp:Bool},PSt w b ts A c k fn lp→20 * (ts.length - k)+2<n→Calls Tryz.prog 79 #[.pointer (some ⟨b,0,none⟩)] w (Got w b ts A c k fn lp (Pars.run n .ifs fn lp (left ts k)))
 loops:∀{w:World} {b:Nat} {ts:List KT} {A:Option Addr} {c k:Nat} {fn lp:Bool},PSt w b ts A c k fn lp→20 * (ts.length - k)+1<n→Calls Tryz.prog 82 #[.pointer (some ⟨b,0,none⟩)] w (Got w b ts A c k fn lp (Pars.run n .loops fn lp (left ts k)))
 tries:∀{w:World} {b:Nat} {ts:List KT} {A:Option Addr} {c k:Nat} {fn lp:Bool},PSt w b ts A c k fn lp→20 * (ts.length - k)+2<n→Calls Tryz.prog 84 #[.pointer (some ⟨b,0,none⟩)] w (Got w b ts A c k fn lp (Pars.run n .tries fn lp (left ts k)))
 bin:∀(r:Nat),r≤6→∀{w:World} {b:Nat} {ts:List KT} {A:Option Addr} {c k:Nat} {fn lp:Bool},PSt w b ts A c k fn lp→20 * (ts.length - k)+(10 - r)<n→Calls Tryz.prog 113 #[.pointer (some ⟨b,0,none⟩),.int .i64 (r:Int)] w (Got w b ts A c k fn lp (Pars.run n (.binary r) fn lp (left ts k)))
 body:∀(f:Bool),∀{w:World} {b:Nat} {ts:List KT} {A:Option Addr} {c k:Nat} {fn lp:Bool},PSt w b ts A c k fn lp→20 * (ts.length - k)+2<n→Calls Tryz.prog 81 #[.pointer (some ⟨b,0,none⟩),.bool f] w (Got w b ts A c k fn lp (Pars.run n (.body f) fn lp (left ts k)))
 func:∀(nm:List UInt8),∀{w:World} {b:Nat} {ts:List KT} {A:Option Addr} {c k:Nat} {fn lp:Bool},PSt w b ts A c k fn lp→20 * (ts.length - k)+1<n→Calls Tryz.prog 78 #[.pointer (some ⟨b,0,none⟩),.string (byt nm)] w (Got w b ts A c k fn lp (Pars.run n (.function nm) fn lp (left ts k)))
set_option maxRecDepth 100000 in
set_option maxHeartbeats 4000000 in
theorem inner_step {n:Nat} (h:All n):∀{w:World} {b:Nat} {ts:List KT} {A:Option Addr} {c k:Nat} {fn lp:Bool},PSt w b ts A c k fn lp→20 * (ts.length - k)+1<n+1→Calls Tryz.prog 80 #[.pointer (some ⟨b,0,none⟩)] w (Got w b ts A c k fn lp (Pars.run (n+1) .inner fn lp (left ts k))):=by
 intro w b ts A c k fn lp hP hm
 have HR:Hid (Pars.run (n+1) .inner fn lp (left ts k)=_):=hid (by rw[Pars.run])
 have hbl:=hP.box.lt
 have hle:=hP.kle
 go_enter Tryz.func80,Tryz.ntmps80
 go_upto_region 1 with fail
 refine gen_world (F:=fun W=>Box W w.heap.size 24 #[.int .i64 0,.int .i64 0,.string ⟨#[]⟩,.slice none 0 0]∧Below w.heap.size w W) ⟨Box.new w _ _,below1 w _⟩ ?_
 rintro W0 ⟨r0,hU⟩
 have RB:=hid r0
 have HP:=hid (hP.below hU)
 have HU:Hid (Upd w W0 b):=hid (Upd.below hU b)
 have HZ:Hid (w.heap.size<W0.heap.size):=hid r0.lt
 have hz0:=r0.lt
 have HZW:Hid (W0.heap.size≤W0.heap.size):=hid (Nat.le_refl _)
 clear r0 hU hP
 go_wp2_with fail
 refine (must_any [40] _ b ts A c (k) fn lp HP.out).mono ?_
 rintro e w1 (⟨hi,hk,rfl,hx,hu⟩ | ⟨hi,rfl,hu⟩)
 rotate_left
 ·exact⟨rfl,.inr ⟨HR.out.trans (Pars.must_no hi),rfl,HU.out.trans hu⟩⟩
 replace HR:=hid (HR.out.trans (Pars.must_some hi))
 replace RB:=bg RB hu
 replace HP:=hid (HP.out.upd hx hu (by omega))
 replace HU:=hid (HU.out.trans hu)
 replace HZW:=hid (Nat.le_trans HZW.out hu.size)
 clear hi hx hu
 have hle1:=HP.out.kle
 go_wp2_with fail
 refine (h.expr HP.out (by omega)).mono ?_
 rintro e w2 (⟨x1,k1,cs1,hr,hk1,hk2,rfl,hn,hx,hu⟩ | ⟨hr,rfl,hu⟩)
 rotate_left
 ·exact⟨rfl,.inr ⟨HR.out.trans (Pars.and_no hr),rfl,HU.out.trans hu⟩⟩
 have hlt1:=got_lt hr rfl
 replace HR:=hid (HR.out.trans (Pars.and_some hr))
 have HN1:Hid (NodeAt _ (fun g=>W0.heap.size≤g) x1 cs1):=hid (hn.weak (fun g hg=>by have:=HZW.out;omega))
 have hcs1:(Tryz.prog.info? 24).map (·.size)=some cs1.size:=by rw[NodeAt.size hn];exact info_nod
 have h41:(4:Nat)=cs1.size:=(NodeAt.size hn).symm
 have hone1:=NodeAt.one hn
 have HCS1:=hid hcs1
 have H41:=hid h41
 have HONE1:=hid hone1
 replace RB:=bg RB hu
 replace HP:=hid (HP.out.upd hx hu (by omega))
 replace HU:=hid (HU.out.trans hu)
 replace HZW:=hid (Nat.le_trans HZW.out hu.size)
 clear hr hn hx hu hcs1 h41 hone1
 have hle2:=HP.out.kle
 go_upto_region 3 with (refine wpList_store_box rfl 24 (.tmp 3) (.tmp 7) rfl w2.heap.size cs1 rfl rfl 24 _ (Box.new w2 _ _) HCS1.out H41.out HONE1.out ?_;intro w3 hx hv hz;have HZ1:=hid hz;clear hz)
 have hb:Below w2.heap.size w2 w3:=((Below.refl _ w2).alloc (Nat.le_refl _) _).trans (hv.own (Nat.le_refl _) (by simp))
 have EB1:=hid hx
 have hzE1:=Nat.lt_of_lt_of_le HZ.out HZW.out
 replace RB:=bl RB hb
 replace HN1:=hid (HN1.out.below hb)
 replace HP:=hid (HP.out.below hb)
 replace HU:=hid (HU.out.step hb)
 replace HZW:=hid (Nat.le_trans HZW.out hb.size)
 clear hx hv hb
 go_wp2_with fail
 refine (must_any [41] _ b ts A c (k1) fn lp HP.out).mono ?_
 rintro e w4 (⟨hi,hk,rfl,hx,hu⟩ | ⟨hi,rfl,hu⟩)
 rotate_left
 ·exact⟨rfl,.inr ⟨HR.out.trans (Pars.must_no hi),rfl,HU.out.trans hu⟩⟩
 replace HR:=hid (HR.out.trans (Pars.must_some hi))
 replace RB:=bg RB hu
 replace EB1:=bg EB1 hu
 replace HN1:=hid (HN1.out.upd hu (fun g hg=>by first | omega | (simp only at hg;omega)))
 replace HP:=hid (HP.out.upd hx hu (by omega))
 replace HU:=hid (HU.out.trans hu)
 replace HZW:=hid (Nat.le_trans HZW.out hu.size)
 clear hi hx hu
 have eb1:=EB1.out
 go_wp2_with (first | (refine wpList_load_row rfl 24 (.tmp 3) rfl w2.heap.size rfl _ cs1 (0,0) _ eb1 Tryz.underlying24 rfl HCS1.out ?_) | (refine wpList_store_box rfl 24 (.tmp 2) (.tmp 10) rfl w.heap.size cs1 rfl rfl 24 _ RB.out HCS1.out H41.out HONE1.out ?_;intro wz hxz huz hzz;have HZZ:=hid hzz;clear hzz))
 refine bodyPost_ret (results_box rfl _ _ w.heap.size 24 _ _ rfl hxz Tryz.underlying24 rfl HCS1.out) rfl ?_
 exact .inl ⟨x1,k1+1,cs1,HR.out,by omega,HP.out.kle,rfl,(HN1.out.upd huz (fun g hg=>by first | omega | (simp only at hg;omega))).weak (fun g hg=>by first | omega | (simp only at hg;omega)),Box.grown HP.out.box huz (by intro h;injection h with h;omega),Upd.fresh HU.out huz (Nat.le_refl _)⟩
end Go.Proofs.YtflmjbmdmoifhaaGreatDoor
