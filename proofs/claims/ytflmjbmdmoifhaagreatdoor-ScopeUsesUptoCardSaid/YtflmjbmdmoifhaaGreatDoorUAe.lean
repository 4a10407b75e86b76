/-
  Texts that the law leans on: SmD, SmE, SmF, SmG, SmH, SmI. Conditions: as each says.
-/
import Derived.Test.YtflmjbmdmoifhaaGreatDoorUAd
import Derived.Test.YtflmjbmdmoifhaaGreatDoorUAa
set_option linter.unusedSimpArgs false
set_option linter.unusedVariables false
namespace Scopy
open Pars (Node Bs)
def Few (s:St):Prop:=s.decls.length≤4000000∧s.uses.length≤4000000
theorem few_back (known:List Bs) (dk:Int) (nm:Bs):Backs (hs known dk nm) Few where
 push _ _ h:=h
 pop _ h:=h
 decl k t s h:=by
  rcases decl_cases (known:=known) (dk:=dk) (nm:=nm) k t s with⟨e0,e⟩ | ⟨e0,_,e⟩ | ⟨e0,_,e⟩<;>rw[e] at h
  ·exact h
  ·exact h
  ·have:=h.1
   simp only[List.length_append] at this
   exact⟨by omega,h.2⟩
 use t s h:=by
  rcases use_cases (known:=known) (dk:=dk) (nm:=nm) t s with⟨_,e⟩ | ⟨e0,k,_,e⟩ | ⟨e0,_,_,e⟩ | ⟨e0,_,_,e⟩<;>rw[e] at h
  ·exact h
  ·have h1:=h.1
   have h2:=h.2
   simp only[mark_len] at h1
   simp only[List.length_append] at h2
   exact⟨h1,by omega⟩
  ·have h2:=h.2
   simp only[List.length_append] at h2
   exact⟨h.1,by omega⟩
  ·exact h
section
variable {σ : Type}
def done (f:Node→σ→σ×Node) (l:List Node) (s:σ) (j:Nat):σ×List Node:=((mapA f (l.take j) s).1,(mapA f (l.take j) s).2++l.drop j)
theorem done_zero (f:Node→σ→σ×Node) (l:List Node) (s:σ):done f l s 0=(s,l):=by simp[done,mapA]
theorem done_all (f:Node→σ→σ×Node) (l:List Node) (s:σ):done f l s l.length=mapA f l s:=by simp[done]
theorem done_len (f:Node→σ→σ×Node) (l:List Node) (s:σ) (j:Nat):(done f l s j).2.length=l.length:=by
 simp only[done,List.length_append,mapA_len,List.length_take,List.length_drop]
 omega
theorem done_at (f:Node→σ→σ×Node) {l:List Node} (s:σ) {j:Nat} {x:Node} (h:l[j]? =some x):(done f l s j).2[j]? =some x:=by
 have hj:=(List.getElem?_eq_some_iff.1 h).1
 simp only[done]
 rw[List.getElem?_append_right (by rw[mapA_len];simp;omega),mapA_len,List.length_take,List.getElem?_drop]
 rw[show min j l.length=j by omega]
 simpa using h
theorem done_succ (f:Node→σ→σ×Node) {l:List Node} (s:σ) {j:Nat} {x:Node} (h:l[j]? =some x):done f l s (j+1)=((f x (done f l s j).1).1,(done f l s j).2.set j (f x (done f l s j).1).2):=by
 have hj:=(List.getElem?_eq_some_iff.1 h).1
 have e1:l.take (j+1)=l.take j++[x]:=by rw[List.take_add_one,h];rfl
 have e2:l.drop j=x :: l.drop (j+1):=by rw[List.drop_eq_getElem_cons hj,(List.getElem?_eq_some_iff.1 h).2]
 simp only[done]
 rw[e1,mapA_app]
 simp only[mapA]
 rw[e2,List.set_append_right _ _ (by rw[mapA_len];simp;omega),mapA_len,List.length_take,show j - min j l.length=0 by omega]
 simp
theorem done_back {f:Node→σ→σ×Node} {J:σ→Prop} (hf:∀a s,J (f a s).1→J s) {l:List Node} {s:σ} (j:Nat) (h:J (mapA f l s).1):J (done f l s j).1:=by
 have e:mapA f l s=mapA f (l.take j++l.drop j) s:=by rw[List.take_append_drop]
 rw[e,mapA_app] at h
 exact mapA_back hf _ _ h
end
section
variable {known : List Bs} {dk : Int} {nm : Bs}
theorem done_rooms (N:Nat) (l:List Node) (s:St) (j:Nat):(done (tr (hs known dk nm) N) l s j).1.rooms=s.rooms:=mapA_v (v:=St.rooms) (rooms_same known dk nm N) _ s
theorem tr_tells (N:Nat) (n:Node) (s:St) (h:Tells known s):Tells known (tr (hs known dk nm) N n s).1:=tr_inv (tells known dk nm) N n s trivial h
theorem decl_deep (k:Int) (t:Bs) (s:St):((hs known dk nm).decl k t s).1.top.deep=s.top.deep:=by
 rcases decl_cases (known:=known) (dk:=dk) (nm:=nm) k t s with⟨_,e⟩ | ⟨_,_,e⟩ | ⟨_,_,e⟩<;>rw[e]<;>rfl
theorem decl_ne (k:Int) (t:Bs) (s:St) (h:s.rooms≠[]):((hs known dk nm).decl k t s).1.rooms=((hs known dk nm).decl k t s).1.top :: s.rooms.tail:=by
 cases hr:s.rooms with
 | nil=>exact absurd hr h
 | cons r l=>
  rcases decl_cases (known:=known) (dk:=dk) (nm:=nm) k t s with⟨_,e⟩ | ⟨_,_,e⟩ | ⟨_,_,e⟩<;>rw[e]<;>simp[St.top,hr]
theorem name_len {t:Bs} (h:Wri.name t=true):t.length≤2000:=by
 unfold Wri.name Lexy.toks at h
 by_cases hl:2000<t.length
 ·rw[if_pos hl] at h;cases h
 ·omega
theorem told_deep_ (a:Node) (s:St):(told (hs known dk nm) a s).1.top.deep=s.top.deep:=by
 unfold told
 split
 ·exact decl_deep _ _ _
 ·rfl
theorem done_told_deep (l:List Node) (s:St) (j:Nat):(done (told (hs known dk nm)) l s j).1.top.deep=s.top.deep:=mapA_v (v:=fun s=>s.top.deep) (fun a s=>told_deep_ a s) _ s
theorem par_deep_:∀(a:Node) (s:St),(par (hs known dk nm) a s).1.top.deep=s.top.deep
 | .mk k nu t l,s=>decl_deep _ _ _
theorem done_par_deep (l:List Node) (s:St) (j:Nat):(done (par (hs known dk nm)) l s j).1.top.deep=s.top.deep:=mapA_v (v:=fun s=>s.top.deep) (fun a s=>par_deep_ a s) _ s
theorem done_top (N:Nat) (l:List Node) (s:St) (j:Nat):(done (tr (hs known dk nm) N) l s j).1.top=s.top:=by
 unfold St.top
 rw[done_rooms]
theorem set_self {l:List Node} {j:Nat} {x:Node} (h:l[j]? =some x):l.set j x=l:=by
 apply List.ext_getElem?
 intro i
 rw[List.getElem?_set]
 split
 ·rename_i e;subst e
  rw[if_pos (List.getElem?_eq_some_iff.1 h).1,h]
 ·rfl
theorem decl_more (k:Int) (t:Bs) (s:St):s.decls.length≤((hs known dk nm).decl k t s).1.decls.length:=by
 rcases decl_cases (known:=known) (dk:=dk) (nm:=nm) k t s with⟨_,e⟩ | ⟨_,_,e⟩ | ⟨_,_,e⟩<;>rw[e]<;>simp
theorem use_more (t:Bs) (s:St):s.decls.length≤((hs known dk nm).use t s).1.decls.length:=by
 rcases use_cases (known:=known) (dk:=dk) (nm:=nm) t s with⟨_,e⟩ | ⟨_,k,_,e⟩ | ⟨_,_,_,e⟩ | ⟨_,_,_,e⟩<;>rw[e]<;>simp[mark_len]
theorem more_keeps (m:Nat):Keeps (hs known dk nm) (fun _=>True) (fun s=>m≤s.decls.length) (fun _=>True) where
 push _ _ _:=trivial
 pop _ _:=trivial
 decl _ _ _ _:=trivial
 use _ _ _:=trivial
 pushI _ _ _ i:=i
 pushP _:=trivial
 popI _ _ i:=i
 declI k t s _ i _:=Nat.le_trans i (decl_more k t s)
 declP _ _ _ _:=trivial
 useI t s _ i:=Nat.le_trans i (use_more t s)
theorem tr_more (N:Nat) (n:Node) (s:St):s.decls.length≤(tr (hs known dk nm) N n s).1.decls.length:=tr_inv (more_keeps s.decls.length) N n s trivial (Nat.le_refl _)
end
end Scopy
namespace Go.Proofs.YtflmjbmdmoifhaaGreatDoor
open Go.Lib (hid)
open Go.RowKit
structure StPre (w:World) (l B kb:Nat) (kv:Value) (known:List (List UInt8)) (dk:Int) (nm:List UInt8) (LS RS:Nat→Prop) (s:Scopy.St) (tb tm:Nat) (out dv uv:Value):Prop where
 lk:Lk w l B kv dk nm LS s dv uv
 top:Box w tb 72 (rmc tm s.top.deep out)
 map:∃c,c≤s.decls.length∧MapF natRdr w tm c s.top.f
 rest:RoomsAt w 4000000 (fun i=>RS i∧i≠tb∧i≠tm) s.rooms.tail out
 rt:RS tb∧RS tm∧tb≠tm
 nR:∀i,RS i→¬LS i∧i<w.heap.size
 kn:KnAt w kb known kv
 kL:∀i,LS i→kb≤i
 kR:∀i,RS i→kb≤i
 tells:Scopy.Tells known s
 big:B≤w.heap.size
 kw:kb≤w.heap.size
 ne:s.rooms≠[]
structure NdPre (w:World) (kb:Nat) (LS RS:Nat→Prop) (g o lo hi:Nat) (C:Array Value) (n:Pars.Node) (v:Value):Prop where
 node:Box w g 24 C
 cells:Cells4 C o (nc n.kind n.num n.text v)
 kids:KidsIn w lo hi n.kids v
 ng:¬LS g
 gR:¬RS g
 gi:g<lo∨hi≤g
 ni:∀i,lo≤i→i<hi→¬LS i∧¬RS i
 hh:hi≤w.heap.size
 kg:kb≤g
 kl:kb≤lo
def Touch (LS:Nat→Prop) (g lo hi:Nat):Nat→Prop:=fun i=>LS i∨i=g∨(lo≤i∧i<hi)
def LookOut (w:World) (l B:Nat) (kv:Value) (dk:Int) (nm:List UInt8) (LS:Nat→Prop) (g o lo hi:Nat) (C:Array Value) (v:Value) (n:Pars.Node) (r:Scopy.St×Pars.Node) (e:Ending) (w':World):Prop:=
 e= .returned (.tuple #[])∧∃dv' uv' C',Lk w' l B kv dk nm (Grow LS w w') r.1 dv' uv'∧Box w' g 24 C'∧Same4 C C' o∧Cells4 C' o (nc n.kind n.num r.2.text v)∧KidsIn w' lo hi r.2.kids v∧Fr w w' (Touch LS g lo hi)
theorem Grow.sub {LS:Nat→Prop} {w w1 w2:World} (h1:w.heap.size≤w1.heap.size) {i:Nat} (h:Grow (Grow LS w w1) w1 w2 i):Grow LS w w2 i:=by
 obtain⟨h2,h3⟩:=h
 refine⟨h2,?_⟩
 rcases h3 with⟨h4,h5⟩ | h5
 ·exact h5
 ·right;omega
theorem Grow.not {LS:Nat→Prop} {w w1:World} {i:Nat} (h:¬LS i) (hi:i<w.heap.size):¬Grow LS w w1 i:=by
 rintro⟨_,h2 | h2⟩
 ·exact h h2
 ·omega
section
variable {w w1 : World} {l B kb tb tm : Nat} {kv : Value} {known : List (List UInt8)} {dk : Int} {nm : List UInt8} {LS RS F : Nat → Prop} {s s' : Scopy.St} {out dv uv dv' uv' : Value}
theorem top_cons {s:Scopy.St} (h:s.rooms≠[]):s.rooms=s.top :: s.rooms.tail:=by
 unfold Scopy.St.top
 cases hr:s.rooms with
 | nil=>exact absurd hr h
 | cons r l=>rfl
theorem StPre.next (h:StPre w l B kb kv known dk nm LS RS s tb tm out dv uv) (hf:Fr w w1 F) (hk:Lk w1 l B kv dk nm (Grow LS w w1) s' dv' uv') (hr:∀i,RS i→¬F i) (hb:∀i,i<kb→¬F i) (h1:s'.rooms=s.rooms) (h2:Scopy.Tells known s') (h3:s.decls.length≤s'.decls.length):StPre w1 l B kb kv known dk nm (Grow LS w w1) RS s' tb tm out dv' uv':=by
 have e:s'.top=s.top:=by unfold Scopy.St.top;rw[h1]
 obtain⟨c,hc,hm⟩:=h.map
 refine⟨hk,by rw[e];exact hf.box h.top (hr _ h.rt.1),⟨c,by omega,by rw[e];exact hf.mapf hm (hr _ h.rt.2.1)⟩,by rw[h1];exact h.rest.fr hf fun i hi=>hr i hi.1,h.rt,fun i hi=>⟨Grow.not (h.nR i hi).1 (h.nR i hi).2,by have:=(h.nR i hi).2;have:=hf.size;omega⟩,h.kn.fr hf hb,fun i hi=> ?_,h.kR,h2,by have:=h.big;have:=hf.size;omega,by have:=h.kw;have:=hf.size;omega,by rw[h1];exact h.ne⟩
 rcases hi.2 with e | e
 ·exact h.kL i e
 ·have:=h.kw;omega
theorem StPre.rooms (h:StPre w l B kb kv known dk nm LS RS s tb tm out dv uv) (hf:Scopy.Few s):RoomsAt w 4000000 RS s.rooms (at_ tb 0):=by
 obtain⟨c,hc,hm⟩:=h.map
 rw[top_cons h.ne]
 exact⟨tb,tm,c,out,rfl,h.top,hm,by have:=hf.1;omega,h.rt.1,h.rt.2.1,h.rest⟩
theorem StPre.regrow {LS0:Nat→Prop} {w0 wr:World} (h:StPre w l B kb kv known dk nm (Grow (Grow LS0 w0 wr) wr w) RS s tb tm out dv uv) (hz:w0.heap.size≤wr.heap.size) (hR:∀i,RS i→¬LS0 i∧i<w0.heap.size) (hL:∀i,LS0 i→kb≤i) (hkw:kb≤w0.heap.size):StPre w l B kb kv known dk nm (Grow LS0 w0 w) RS s tb tm out dv uv:=
 ⟨h.lk.sets (fun i hi=>hi.sub hz) (fun i hi=>hi.1),h.top,h.map,h.rest,h.rt,fun i hi=>⟨Grow.not (hR i hi).1 (hR i hi).2,(h.nR i hi).2⟩,h.kn,fun i hi=>by
  rcases hi.2 with e | e
  ·exact hL i e
  ·omega,h.kR,h.tells,h.big,h.kw,h.ne⟩
theorem StPre.grow0 (h:StPre w l B kb kv known dk nm LS RS s tb tm out dv uv):StPre w l B kb kv known dk nm (Grow LS w w) RS s tb tm out dv uv:=
 ⟨h.lk.sets (fun i hi=>⟨h.lk.lt i hi,.inl hi⟩) (fun i hi=>hi.1),h.top,h.map,h.rest,h.rt,fun i hi=>⟨Grow.not (h.nR i hi).1 (h.nR i hi).2,(h.nR i hi).2⟩,h.kn,fun i hi=>by
  rcases hi.2 with e | e
  ·exact h.kL i e
  ·have:=h.kw;omega,h.kR,h.tells,h.big,h.kw,h.ne⟩
theorem StPre.enter (h:StPre w l B kb kv known dk nm LS RS s tb tm out dv uv) (hf:Scopy.Few s) (d:Nat) {w1:World} (h1:Box w1 (w.heap.size+1) 72 (rmc w.heap.size (s.top.deep+d) (at_ tb 0))) (h2:MapF natRdr w1 w.heap.size 0 Scopy.empty) (hb:Below w.heap.size w w1) (hz:w1.heap.size=w.heap.size+2):
  StPre w1 l B kb kv known dk nm LS (fun i=>RS i∨i=w.heap.size∨i=w.heap.size+1) ((Scopy.hs known dk nm).push d s) (w.heap.size+1) w.heap.size (at_ tb 0) dv uv:=by
 have fr:=Fr.below hb (fun _=>False)
 refine⟨(h.lk.fr fr fun g _ h=>h).state rfl rfl rfl,h1,⟨0,Nat.zero_le _,h2⟩,?_,⟨.inr (.inr rfl),.inr (.inl rfl),by omega⟩,fun i hi=> ?_,h.kn.fr fr fun i _ h=>h,h.kL,fun i hi=> ?_,Scopy.tells_push d s h.tells,by have:=h.big;omega,by have:=h.kw;omega,by show _ :: _≠[];simp⟩
 ·show RoomsAt w1 4000000 _ s.rooms (at_ tb 0)
  exact ((h.rooms hf).fr fr fun _ _ h=>h).sets (Nat.le_refl _) fun i hi=>⟨.inl hi,by have:=(h.nR i hi).2;omega,by have:=(h.nR i hi).2;omega⟩
 ·rcases hi with hi | rfl | rfl
  ·exact⟨(h.nR i hi).1,by have:=(h.nR i hi).2;omega⟩
  ·exact⟨fun hl=>by have:=h.lk.lt _ hl;omega,by omega⟩
  ·exact⟨fun hl=>by have:=h.lk.lt _ hl;omega,by omega⟩
 ·have:=h.kw
  rcases hi with hi | rfl | rfl
  ·exact h.kR i hi
  ·omega
  ·omega
theorem tell_st (h:StPre w l B kb kv known dk nm LS RS s tb tm out dv uv) {g o:Nat} {C:Array Value} {k nu:Int} {t:List UInt8} {v:Value} (kd:Int) (hn:Box w g 24 C) (hc:Cells4 C o (nc k nu t v)) (ng:¬LS g) (gR:¬RS g) (tl:t.length≤4000000) (kg:kb≤g) (hf:Scopy.Few ((Scopy.hs known dk nm).decl kd t s).1):
  Calls Tryz.prog 42 #[at_ l 0,at_ tb 0,.int .i64 kd,at_ g o] w fun e w'=>e= .returned (.tuple #[])∧∃dv' C',StPre w' l B kb kv known dk nm (Grow LS w w') RS ((Scopy.hs known dk nm).decl kd t s).1 tb tm out dv' uv∧Box w' g 24 C'∧Same4 C C' o∧Cells4 C' o (nc k nu ((Scopy.hs known dk nm).decl kd t s).2 v)∧Fr w w' (fun i=>LS i∨i=g∨i=tm):=by
 obtain⟨c,hcd,hm⟩:=h.map
 have hf0:=(Scopy.few_back known dk nm).decl kd t s hf
 refine (tell_any known kd h.lk ⟨hn,hc,h.top,hm,ng,(h.nR _ h.rt.1).1,(h.nR _ h.rt.2.1).1,fun e=>gR (e ▸ h.rt.1),fun e=>gR (e ▸ h.rt.2.1),h.rt.2.2,tl⟩ (top_cons h.ne) h.big hf0.1 hcd).mono ?_
 rintro e w' ⟨rfl,dv',C',hl,h1,h2,h3,⟨c',h4,h5⟩,h6⟩
 refine⟨rfl,dv',C',⟨hl,?_,⟨c',h4,h5⟩,?_,h.rt,fun i hi=>⟨Grow.not (h.nR i hi).1 (h.nR i hi).2,by have:=(h.nR i hi).2;have:=h6.size;omega⟩,h.kn.fr h6 ?_,fun i hi=> ?_,h.kR,Scopy.tells_decl kd t s h.tells,by have:=h.big;have:=h6.size;omega,by have:=h.kw;have:=h6.size;omega,?_⟩,h1,h2,h3,h6⟩
 ·rw[Scopy.decl_deep]
  refine h6.box h.top ?_
  rintro (e | e | e)
  ·exact (h.nR _ h.rt.1).1 e
  ·exact gR (e ▸ h.rt.1)
  ·exact h.rt.2.2 e
 ·rw[Scopy.decl_ne kd t s h.ne,List.tail_cons]
  refine h.rest.fr h6 ?_
  rintro i ⟨hi,h7,h8⟩ (e | e | e)
  ·exact (h.nR _ hi).1 e
  ·exact gR (e ▸ hi)
  ·exact h8 e
 ·rintro i hi (e | e | e)
  ·have:=h.kL i e;omega
  ·omega
  ·have:=h.kR _ h.rt.2.1;omega
 ·rcases hi.2 with e | e
  ·exact h.kL i e
  ·have:=h.kw;omega
 ·rw[Scopy.decl_ne kd t s h.ne];simp
end
structure RowAt (w:World) (b lo hi:Nat) (C:Array Value) (ks:List Pars.Node) (css:List (Array Value)):Prop where
 box:Box w b 24 C
 has:RowHas C css
 subs:SubsIn w lo hi ks css
 bl:b<lo
 lh:lo≤hi
theorem KidsIn.row {w:World} {lo hi:Nat} {ks:List Pars.Node} {v:Value} (h:KidsIn w lo hi ks v) (hp:0<ks.length):∃b cap C css,v= .slice (some ⟨b,0,none⟩) ks.length cap∧ks.length≤cap∧cap≤9223372036854775807∧lo≤b∧b<hi∧RowAt w b (b+1) hi C ks css:=by
 cases ks with
 | nil=>simp at hp
 | cons n l=>
  unfold KidsIn at h
  obtain⟨b,cap,C,css,h1,h2,h3,h4,h5,h6,h7,h8⟩:=h
  exact⟨b,cap,C,css,h1,h2,h3,h4,h5,h6,h7,h8,by omega,by omega⟩
theorem RowAt.kids {w:World} {lo hi b cap:Nat} {C:Array Value} {ks:List Pars.Node} {css:List (Array Value)} (h:RowAt w b (b+1) hi C ks css) (h1:lo≤b) (h2:b<hi) (h3:ks.length≤cap) (h4:cap≤9223372036854775807) {m:Nat} (hm:ks.length=m):KidsIn w lo hi ks (.slice (some ⟨b,0,none⟩) m cap):=by
 subst hm
 cases ks with
 | nil=>
  unfold KidsIn
  exact⟨_,cap,rfl,h4⟩
 | cons n l=>
  unfold KidsIn
  exact⟨b,cap,C,css,rfl,h3,h4,h1,h2,h.box,h.has,h.subs⟩
theorem KidsIn.slice {w:World} {lo hi:Nat} {ks:List Pars.Node} {v:Value} (h:KidsIn w lo hi ks v):∃A cap,v= .slice A ks.length cap:=by
 cases ks with
 | nil=>unfold KidsIn at h;obtain⟨A,c,rfl,_⟩:=h;exact⟨A,c,rfl⟩
 | cons n l=>unfold KidsIn at h;obtain⟨b,cap,C,css,rfl,_⟩:=h;exact⟨_,cap,rfl⟩
theorem RowAt.kid {w:World} {b lo hi:Nat} {C:Array Value} {ks:List Pars.Node} {css:List (Array Value)} (h:RowAt w b lo hi C ks css) {i:Nat} {x:Pars.Node} (hx:ks[i]? =some x):
  ∃a c vx,lo≤a∧a≤c∧c≤hi∧Cells4 C (i * 4) (nc x.kind x.num x.text vx)∧KidsIn w a c x.kids vx∧
   ∀(w1:World) (F:Nat→Prop) (C':Array Value) (x':Pars.Node),Fr w w1 F→(∀g,lo≤g→g<hi→(g<a∨c≤g)→¬F g)→Box w1 b 24 C'→Same4 C C' (i * 4)→Cells4 C' (i * 4) (nc x'.kind x'.num x'.text vx)→KidsIn w1 a c x'.kids vx→
    ∃css',RowAt w1 b lo hi C' (ks.set i x') css':=by
 obtain⟨a,c,cx,h1,h2,h3,h4,h5,h6⟩:=h.subs.at h.lh hx
 obtain⟨k,nu,t,l⟩:=x
 unfold NodeIn at h5
 obtain⟨vx,rfl,h7⟩:=h5
 refine⟨a,c,vx,h1,h2,h3,h.has.cells h4,h7,fun w1 F C' x' hf hn hb hs hc hk=> ?_⟩
 obtain⟨k',nu',t',l'⟩:=x'
 exact⟨css.set i (nc k' nu' t' vx),hb,h.has.set hs hc rfl,h6 hf hn (by unfold NodeIn;exact⟨vx,rfl,hk⟩),h.bl,h.lh⟩
theorem RowAt.fr {w w1:World} {b lo hi:Nat} {C:Array Value} {ks:List Pars.Node} {css:List (Array Value)} {F:Nat→Prop} (h:RowAt w b lo hi C ks css) (hf:Fr w w1 F) (hb:¬F b) (hn:∀i,lo≤i→i<hi→¬F i):RowAt w1 b lo hi C ks css:=
 ⟨hf.box h.box hb,h.has,h.subs.fr hf hn,h.bl,h.lh⟩
end Go.Proofs.YtflmjbmdmoifhaaGreatDoor
namespace Go.Proofs.YtflmjbmdmoifhaaGreatDoor
open Go.Lib (hid)
open Go.RowKit
def LookLe (N:Nat) (l B kb:Nat) (kv:Value) (known:List (List UInt8)) (dk:Int) (nm:List UInt8):Prop:=
 ∀(w:World) (LS RS:Nat→Prop) (s:Scopy.St) (tb tm:Nat) (out dv uv:Value) (g o lo hi:Nat) (C:Array Value) (n:Pars.Node) (v:Value) (fn lp:Bool),
  StPre w l B kb kv known dk nm LS RS s tb tm out dv uv→NdPre w kb LS RS g o lo hi C n v→Wri.right n fn lp=true→Pars.deep n≤N→s.top.deep+Pars.deep n≤1000→Scopy.Few (Scopy.tr (Scopy.hs known dk nm) N n s).1→
  Calls Tryz.prog 27 #[at_ l 0,at_ tb 0,at_ g o] w (LookOut w l B kv dk nm LS g o lo hi C v n (Scopy.tr (Scopy.hs known dk nm) N n s))
def inRoom (known:List (List UInt8)) (dk:Int) (nm:List UInt8) (N:Nat) (k:Int) (t:List UInt8) (b:Pars.Node) (s:Scopy.St):Scopy.St×Pars.Node:=Scopy.tr (Scopy.hs known dk nm) N b ((Scopy.hs known dk nm).decl k t ((Scopy.hs known dk nm).push 0 s)).1
def NamedOut (w:World) (l B:Nat) (kv:Value) (known:List (List UInt8)) (dk:Int) (nm:List UInt8) (LS:Nat→Prop) (s:Scopy.St) (N:Nat) (g o:Nat) (C:Array Value) (k nu:Int) (t:List UInt8) (v:Value) (g2 o2 lo hi:Nat) (C2:Array Value) (b:Pars.Node) (v2:Value) (e:Ending) (w':World):Prop:=
 e= .returned (.tuple #[])∧∃dv' uv' C' C2',Lk w' l B kv dk nm (Grow LS w w') ((Scopy.hs known dk nm).pop (inRoom known dk nm N k t b s).1) dv' uv'∧Box w' g 24 C'∧Same4 C C' o∧Cells4 C' o (nc k nu ((Scopy.hs known dk nm).decl k t ((Scopy.hs known dk nm).push 0 s)).2 v)∧
  Box w' g2 24 C2'∧Same4 C2 C2' o2∧Cells4 C2' o2 (nc b.kind b.num (inRoom known dk nm N k t b s).2.text v2)∧KidsIn w' lo hi (inRoom known dk nm N k t b s).2.kids v2∧Fr w w' (fun i=>LS i∨i=g∨i=g2∨(lo≤i∧i<hi))
set_option maxRecDepth 100000 in
set_option maxHeartbeats 8000000 in
theorem named_any {N l B kb:Nat} {kv:Value} {known:List (List UInt8)} {dk:Int} {nm:List UInt8} (ih:LookLe N l B kb kv known dk nm) {w:World} {LS RS:Nat→Prop} {s:Scopy.St} {tb tm:Nat} {out dv uv:Value} {g o:Nat} {C:Array Value} {k nu:Int} {t:List UInt8} {v:Value} {g2 o2 lo hi:Nat} {C2:Array Value} {b:Pars.Node} {v2:Value} {fn lp:Bool}
  (hst:StPre w l B kb kv known dk nm LS RS s tb tm out dv uv) (hg:Box w g 24 C) (hc:Cells4 C o (nc k nu t v)) (ng:¬LS g) (gR:¬RS g) (kg:kb≤g) (tl:t.length≤4000000) (hnd:NdPre w kb LS RS g2 o2 lo hi C2 b v2) (hgg:g≠g2) (gi:g<lo∨hi≤g) (hr:Wri.right b fn lp=true) (hd:Pars.deep b≤N) (hdd:s.top.deep+Pars.deep b≤1000) (hf:Scopy.Few (inRoom known dk nm N k t b s).1):
  Calls Tryz.prog 43 #[at_ l 0,at_ tb 0,at_ g o,at_ g2 o2] w (NamedOut w l B kv known dk nm LS s N g o C k nu t v g2 o2 lo hi C2 b v2):=by
 have hf1:Scopy.Few ((Scopy.hs known dk nm).decl k t ((Scopy.hs known dk nm).push 0 s)).1:=Scopy.tr_back (Scopy.few_back known dk nm) N b _ hf
 have hf2:Scopy.Few s:=(Scopy.few_back known dk nm).push 0 s ((Scopy.few_back known dk nm).decl k t _ hf1)
 have r1:=hst.top.cell 1
 simp[rmc] at r1
 have HST:=hid hst
 have HG:=hid hg
 have HC:=hid hc
 have HND:=hid hnd
 have HF:=hid hf
 have HF1:=hid hf1
 have HF2:=hid hf2
 have IH:=hid ih
 have HR:=hid hr
 have HD:=hid (And.intro hd hdd)
 clear hst hg hc hnd hf hf1 hf2 ih hr hd hdd
 go_enter Tryz.func43,Tryz.ntmps43
 go_wp2_with fail
 refine (within_room (some ⟨tb,0,none⟩) s.top.deep w).mono ?_
 rintro e w1 ⟨rfl,hb1,hm1,hb,hz1⟩
 have HS1:=hid (HST.out.enter HF2.out 0 hb1 hm1 hb hz1)
 have HG1:=hid ((Fr.below hb (fun _=>False)).box HG.out (fun h=>h))
 have HB1:=hid hb
 have HZ1:=hid hz1
 have n0:w1.cell? ⟨g,o,none⟩=some (.int .i64 k):=by rw[HG1.out.cell];exact HC.out 0 (by omega)
 clear hb1 hm1 hb hz1 r1
 go_wp2_with fail
 have hgR:¬(fun i=>RS i∨i=w.heap.size∨i=w.heap.size+1) g:=by
  have:=HG.out.lt
  rintro (e | e | e)
  ·exact gR e
  ·omega
  ·omega
 refine (tell_st HS1.out k HG1.out HC.out ng hgR tl kg HF1.out).mono ?_
 rintro e w2 ⟨rfl,dv2,C',hs2,h1,h2,h3,h4⟩
 have HS2:=hid hs2
 have HG2:=hid h1
 have HM2:=hid (And.intro h2 h3)
 have HF4:=hid h4
 have HDP:Hid (((Scopy.hs known dk nm).decl k t ((Scopy.hs known dk nm).push 0 s)).1.top.deep=s.top.deep):=hid (Scopy.decl_deep k t _)
 clear hs2 h1 h2 h3 h4 n0
 have hN2:NdPre w2 kb (Grow LS w1 w2) (fun i=>RS i∨i=w.heap.size∨i=w.heap.size+1) g2 o2 lo hi C2 b v2:=by
  have hnd:=HND.out
  have f1:=(Fr.below HB1.out (fun _=>False))
  have hlt:=hnd.node.lt
  have hne:∀i,i<w.heap.size→i≠g→¬LS i→¬(fun i=>LS i∨i=g∨i=w.heap.size) i:=fun i h1 h2 h3 h=>by
   rcases h with e | e | e
   ·exact h3 e
   ·exact h2 e
   ·omega
  have hz:=HZ1.out
  refine⟨HF4.out.box (f1.box hnd.node (fun h=>h)) (hne g2 hlt (fun e=>hgg e.symm) hnd.ng),hnd.cells,(hnd.kids.fr f1 (fun _ _ _ h=>h)).fr HF4.out fun i h1 h2=>hne i (by have:=hnd.hh;omega) (by omega) (hnd.ni i h1 h2).1,Grow.not hnd.ng (by omega),?_,hnd.gi,fun i h1 h2=>⟨Grow.not (hnd.ni i h1 h2).1 (by have:=hnd.hh;omega),?_⟩,by have:=hnd.hh;have:=HF4.out.size;omega,hnd.kg,hnd.kl⟩
  ·rintro (e | e | e)
   ·exact hnd.gR e
   ·omega
   ·omega
  ·have:=hnd.hh
   rintro (e | e | e)
   ·exact (hnd.ni i h1 h2).2 e
   ·omega
   ·omega
 have HN2:=hid hN2
 clear hN2
 go_wp2_with fail
 refine (IH.out w2 (Grow LS w1 w2) _ _ _ _ _ _ _ g2 o2 lo hi C2 b v2 fn lp HS2.out HN2.out HR.out HD.out.1 (by rw[HDP.out];exact HD.out.2) HF.out).mono ?_
 rintro e w3 ⟨rfl,dv3,uv3,C3,h1,h2,h3,h4,h5,h6⟩
 go_wp2_with fail
 refine bodyPost_end (results_none rfl _ _ _) rfl ?_
 have hz:=HZ1.out
 have hs0:=HF4.out.size
 have hs3:=h6.size
 have hgl:=HG.out.lt
 have hsub:∀i,Grow (Grow LS w1 w2) w2 w3 i→Grow LS w w3 i:=fun i hq=>by
  refine⟨hq.1,?_⟩
  rcases hq.2 with e | e
  ·rcases e.2 with e | e
   ·exact .inl e
   ·right;omega
  ·right;omega
 have hbox:Box w3 g 24 C':=h6.box HG2.out (by
  rintro (e | e | e)
  ·exact Grow.not ng (by omega) e
  ·exact hgg e
  ·omega)
 refine⟨rfl,dv3,uv3,C',C3,(h1.sets hsub (fun i hq=>hq.1)).state rfl rfl rfl,hbox,HM2.out.1,HM2.out.2,h2,h3,h4,h5,?_⟩
 refine ((Fr.below HB1.out _).step HF4.out fun i hi e=> ?_).step h6 fun i hi e=> ?_
 ·rcases e with e | e | e
  ·exact .inl e
  ·exact .inr (.inl e)
  ·omega
 ·rcases e with e | e | e
  ·rcases e.2 with e | e
   ·exact .inl e
   ·omega
  ·exact .inr (.inr (.inl e))
  ·exact .inr (.inr (.inr e))
end Go.Proofs.YtflmjbmdmoifhaaGreatDoor
namespace Go.Proofs.YtflmjbmdmoifhaaGreatDoor
open Go.Lib (hid)
open Go.RowKit
theorem told20 {known:List (List UInt8)} {dk:Int} {nm:List UInt8} (nu:Int) (t:List UInt8) (l:List Pars.Node) (s:Scopy.St):Scopy.told (Scopy.hs known dk nm) (.mk 20 nu t l) s=(((Scopy.hs known dk nm).decl 20 t s).1,.mk 20 nu ((Scopy.hs known dk nm).decl 20 t s).2 l):=rfl
theorem told21 {known:List (List UInt8)} {dk:Int} {nm:List UInt8} (nu nu2:Int) (t t2:List UInt8) (l2:List Pars.Node) (s:Scopy.St):Scopy.told (Scopy.hs known dk nm) (.mk 21 nu t [.mk 9 nu2 t2 l2]) s=(((Scopy.hs known dk nm).decl 21 t2 s).1,.mk 21 nu t [.mk 9 nu2 ((Scopy.hs known dk nm).decl 21 t2 s).2 l2]):=rfl
theorem told_no {known:List (List UInt8)} {dk:Int} {nm:List UInt8} (x:Pars.Node) (s:Scopy.St) (h1:x.kind≠20) (h2:x.kind≠21):Scopy.told (Scopy.hs known dk nm) x s=(s,x):=by
 obtain⟨k,nu,t,l⟩:=x
 have h1:k≠20:=h1
 have h2:k≠21:=h2
 simp[Scopy.told,Scopy.hd,h1,h2]
theorem slice_inj {A A':Option Addr} {n n' c c':Nat} (h:(Value.slice A n c)= .slice A' n' c'):A=A'∧n=n'∧c=c':=by injection h with h1 h2 h3;exact⟨h1,h2,h3⟩
theorem addr_inj {b b':Nat} (h:(some ⟨b,0,none⟩:Option Addr)=some ⟨b',0,none⟩):b=b':=by injection h with h;injection h
theorem deep_mem:∀{l:List Pars.Node} {x:Pars.Node},x∈l→Pars.deep x≤Pars.deeps l
 | n :: l,x,h=>by
  simp only[Pars.deeps]
  rcases List.mem_cons.1 h with rfl | h
  ·omega
  ·have:=deep_mem h;omega
theorem fineT {known:List (List UInt8)} {dk:Int} {nm:List UInt8} (hnm:0≤dk→Wri.name nm=true):Scopy.Fine (Scopy.hs known dk nm) (fun _=>True):=
 ⟨fun _ _ _=>trivial,fun _ _=>trivial,fun k t s ht _=>⟨trivial,by
  rcases Scopy.decl_cases (known:=known) (dk:=dk) (nm:=nm) k t s with⟨_,e⟩ | ⟨_,_,e⟩ | ⟨_,_,e⟩<;>rw[e]
  ·exact ht
  ·exact ht
  ·simp only[]
   split
   ·exact hnm (by omega)
   ·exact ht⟩,fun t s ht _=>⟨trivial,by
  rcases Scopy.use_cases (known:=known) (dk:=dk) (nm:=nm) t s with⟨_,e⟩ | ⟨_,k,_,e⟩ | ⟨_,_,_,e⟩ | ⟨_,_,_,e⟩<;>rw[e]
  ·exact ht
  ·simp only[]
   split
   ·exact hnm (by omega)
   ·exact ht
  ·exact ht
  ·exact ht⟩⟩
set_option maxRecDepth 100000 in
set_option maxHeartbeats 8000000 in
theorem block_any {N l B kb:Nat} {kv:Value} {known:List (List UInt8)} {dk:Int} {nm:List UInt8} (hnm:0≤dk→Wri.name nm=true) (ih:LookLe N l B kb kv known dk nm) {w:World} {LS RS:Nat→Prop} {s:Scopy.St} {tb tm:Nat} {out dv uv:Value} {g o lo hi:Nat} {C:Array Value} {nu:Int} {t:List UInt8} {ks:List Pars.Node} {v:Value} {fn lp:Bool}
  (hst:StPre w l B kb kv known dk nm LS RS s tb tm out dv uv) (hnd:NdPre w kb LS RS g o lo hi C (.mk 30 nu t ks) v) (hr:Wri.right (.mk 30 nu t ks) fn lp=true) (hd:Pars.deep (.mk 30 nu t ks)≤N+1) (hdd:s.top.deep+Pars.deep (.mk 30 nu t ks)≤1000) (hf:Scopy.Few (Scopy.tr (Scopy.hs known dk nm) (N+1) (.mk 30 nu t ks) s).1):
  Calls Tryz.prog 40 #[at_ l 0,at_ tb 0,at_ g o] w (LookOut w l B kv dk nm LS g o lo hi C v (.mk 30 nu t ks) (Scopy.tr (Scopy.hs known dk nm) (N+1) (.mk 30 nu t ks) s)):=by
 rw[Scopy.tr30] at hf ⊢
 have hf1:=(Scopy.few_back known dk nm).pop _ hf
 have hf2:=Scopy.mapA_back (Scopy.tr_back (Scopy.few_back known dk nm) N) _ _ hf1
 have hf3:=Scopy.mapA_back (Scopy.told_back (Scopy.few_back known dk nm)) _ _ hf2
 have hf4:Scopy.Few s:=hf3
 obtain⟨hk30,hkr⟩:(∀x∈ks,20≤x.kind∧x.kind≤31)∧(∀x∈ks,Wri.Rt fn lp x):=by
  have h:=Wri.rt_of _ _ _ hr
  cases h with
  | block _ _ _ h1 h2=>exact⟨h1,h2⟩
 have hl1:∀x∈(Scopy.mapA (Scopy.told (Scopy.hs known dk nm)) ks ((Scopy.hs known dk nm).push 0 s)).2,(20≤x.kind∧x.kind≤31)∧Wri.right x fn lp=true:=
  (Scopy.mapA_all (I:=fun _=>True) (Q:=fun a=>(20≤a.kind∧a.kind≤31)∧Wri.right a fn lp=true) (fun a s hq _=>Scopy.told_right (fineT hnm) fn lp a s hq trivial) ks _ (fun x hx=>⟨hk30 x hx,Wri.of_rt (hkr x hx)⟩) trivial).2
 have hdl:Pars.deeps (Scopy.mapA (Scopy.told (Scopy.hs known dk nm)) ks ((Scopy.hs known dk nm).push 0 s)).2=Pars.deeps ks:=Scopy.mapA_deeps (Scopy.told_deep _) _ _
 have r1:=hst.top.cell 1
 simp[rmc] at r1
 have HST:=hid hst
 have HND:=hid hnd
 have HF1:=hid hf1
 have HF2:=hid hf2
 have HF4:=hid hf4
 have IH:=hid ih
 have HK:=hid (And.intro hk30 hkr)
 have HL1:=hid hl1
 have HDL:=hid hdl
 have HD:=hid (And.intro hd hdd)
 obtain⟨A,cap,hv⟩:=KidsIn.slice hnd.kids
 have hv:v= .slice A ks.length cap:=hv
 subst hv
 obtain⟨n,hn⟩:∃n,ks.length=n:=⟨_,rfl⟩
 have HN:=hid hn
 have hnd3:=hnd.cells 3 (by omega)
 clear hst hnd hf hf1 hf2 hf3 hf4 ih hk30 hkr hl1 hdl hd hdd hr hnm
 go_enter Tryz.func40,Tryz.ntmps40
 go_wp2_with fail
 refine (within_room (some ⟨tb,0,none⟩) s.top.deep w).mono ?_
 rintro e w1 ⟨rfl,hb1,hm1,hb,hz1⟩
 have HS1:=hid (HST.out.enter HF4.out 0 hb1 hm1 hb hz1)
 have HB1:=hid hb
 have HZ1:=hid hz1
 have HG1:=hid ((Fr.below hb (fun _=>False)).box HND.out.node (fun h=>h))
 have HK1:=hid (HND.out.kids.fr (Fr.below hb (fun _=>False)) (fun _ _ _ h=>h))
 have HHH:Hid (hi≤w.heap.size):=hid HND.out.hh
 have g3:w1.cell? ⟨g,o+3,none⟩=some (.slice A n cap):=by rw[HG1.out.cell, ←hn];exact hnd3
 clear hb1 hm1 hb hz1 r1
 go_upto_region 2 with fail
 go_loopg [20] n (fun gg s20 wr=>∃(j:Nat) (dv':Value),j≤n∧n - j≤gg∧s20= .int .i64 (j:Int)∧Hid (StPre wr l B kb kv known dk nm (Grow LS w1 wr) (fun i=>RS i∨i=w.heap.size∨i=w.heap.size+1) (Scopy.done (Scopy.told (Scopy.hs known dk nm)) ks ((Scopy.hs known dk nm).push 0 s) j).1 (w.heap.size+1) w.heap.size (at_ tb 0) dv' uv)∧Hid (Box wr g 24 C)∧Hid (KidsIn wr lo hi (Scopy.done (Scopy.told (Scopy.hs known dk nm)) ks ((Scopy.hs known dk nm).push 0 s) j).2 (.slice A ks.length cap))∧Hid (Fr w1 wr (fun i=>LS i∨i=w.heap.size∨(lo≤i∧i<hi))))
 case atStart=>exact⟨0,dv,Nat.zero_le _,by omega,rfl,by rw[Scopy.done_zero];exact HS1.out.grow0,HG1,by rw[Scopy.done_zero];exact HK1,hid (Fr.refl w1 _)⟩
 case round=>
  obtain⟨j,dvj,hj,hgg,rfl,HSj,HGj,HKj,HFj⟩:=hrel
  by_cases hlt:j<n
  ·have hltz:(j:Int)<(n:Int):=by omega
   have hltd:decide ((j:Int)<(n:Int))=true:=decide_eq_true hltz
   obtain⟨x,hx⟩:∃x,ks[j]? =some x:=⟨_,List.getElem?_eq_getElem (by rw[hn];exact hlt)⟩
   obtain⟨b,cap',C2,css,h1,h2,h3,h4,h5,h6⟩:=HKj.out.row (by rw[Scopy.done_len,hn];omega)
   obtain⟨e1,_,e3⟩:=slice_inj h1
   subst e1 e3
   obtain⟨a,c,vx,k1,k2,k3,k4,k5,k6⟩:=h6.kid (Scopy.done_at _ _ hx)
   have hbw:b<w.heap.size:=by have:=HHH.out;omega
   have hbn:=HND.out.ni b h4 h5
   have hgi:=HND.out.gi
   have hgw:=HND.out.node.lt
   have hzz:=HZ1.out
   have hgb:g≠b:=by rintro rfl;omega
   have hng:∀i,i<w.heap.size→¬LS i→¬Grow LS w1 wr i:=fun i h1 h2=>Grow.not h2 (by omega)
   have hnR:∀i,i<w.heap.size→¬RS i→¬(RS i∨i=w.heap.size∨i=w.heap.size+1):=fun i h1 h2 h=>by
    rcases h with h | h | h
    ·exact h2 h
    ·omega
    ·omega
   have hkb:kb≤b:=by have:=HND.out.kl;omega
   have hnx:=Scopy.done_succ (Scopy.told (Scopy.hs known dk nm)) ((Scopy.hs known dk nm).push 0 s) hx
   have hfx:=Scopy.done_back (Scopy.told_back (Scopy.few_back known dk nm)) (l:=ks) (s:=(Scopy.hs known dk nm).push 0 s) (j+1) HF2.out
   rw[hnx] at hfx
   have hrt:=HK.out.2 x (List.mem_of_getElem? hx)
   obtain⟨xk,xn,xt,xl⟩:=x
   have k4:Cells4 C2 (j * 4) (nc xk xn xt vx):=k4
   have k5:KidsIn wr a c xl vx:=k5
   have c0:wr.cell? ⟨b,j * 4,none⟩=some (.int .i64 xk):=by rw[h6.box.cell];exact k4 0 (by omega)
   have c3:wr.cell? ⟨b,j * 4+3,none⟩=some vx:=by rw[h6.box.cell];exact k4 3 (by omega)
   have gj3:wr.cell? ⟨g,o+3,none⟩=some (.slice (some ⟨b,0,none⟩) n cap):=by rw[HGj.out.cell, ←hn];exact hnd3
   have HNX:=hid hnx
   have HFX:=hid hfx
   have HRT:=hid hrt
   have HC4:=hid k4
   have HC5:=hid k5
   have HK6:=hid k6
   have HX:=hid hx
   have HR6:=hid h6
   clear hnx hfx hrt k4 k5 k6 hx h6 h1
   go_upto_region 6 with fail
   by_cases y20:xk=20
   ·subst y20
    have hnm:Wri.name xt=true:=by
     have h:=HRT.out
     cases h with
     | let_ _ _ _ _ h _ _=>exact h
    have hnl:=Scopy.name_len hnm
    go_wp2_with fail
    refine (tell_st HSj.out 20 HR6.out.box HC4.out (hng b hbw hbn.1) (hnR b hbw hbn.2) (by omega) hkb HFX.out).mono ?_
    rintro e w2 ⟨rfl,dv2,C3,hs2,b1,b2,b3,b4⟩
    have hs3:=hs2.regrow (w0:=w1) HFj.out.size (fun i hi=>HS1.out.nR i hi) HS1.out.kL HS1.out.kw
    have hF:∀i,i<w.heap.size→¬LS i→i≠b→¬(Grow LS w1 wr i∨i=b∨i=w.heap.size):=fun i h1 h2 h3 h=>by
     rcases h with h | h | h
     ·exact hng i h1 h2 h
     ·exact h3 h
     ·omega
    obtain⟨css2,hrow⟩:=HK6.out w2 _ C3 (.mk 20 xn ((Scopy.hs known dk nm).decl 20 xt (Scopy.done (Scopy.told (Scopy.hs known dk nm)) ks ((Scopy.hs known dk nm).push 0 s) j).1).2 xl) b4 (fun i q1 q2 q3=>hF i (by have:=HHH.out;omega) (HND.out.ni i (by omega) (by omega)).1 (by omega)) b1 b2 b3 (HC5.out.fr b4 fun i q1 q2=>hF i (by have:=HHH.out;omega) (HND.out.ni i (by omega) (by omega)).1 (by omega))
    have hkk:=hrow.kids (lo:=lo) (cap:=cap) h4 h5 (by rw[List.length_set];exact h2) h3 (m:=ks.length) (by rw[List.length_set,Scopy.done_len])
    have hgg2:=b4.box HGj.out (hF g hgw HND.out.ng hgb)
    have hff:Fr w1 w2 (fun i=>LS i∨i=w.heap.size∨(lo≤i∧i<hi)):=HFj.out.step b4 fun i hi e=>by
     rcases e with e | e | e
     ·rcases e.2 with e | e
      ·exact .inl e
      ·omega
     ·right;right;omega
     ·exact .inr (.inl e)
    have HS3:=hid hs3
    have HKK:=hid hkk
    have HGG:=hid hgg2
    have HFF:=hid hff
    clear hs2 hs3 hkk hgg2 hff hrow b1 b2 b3 b4
    go_wp2_with fail
    go_roundg (n - (j+1))
    case measure=>omega
    case rel=>exact⟨j+1,dv2,by omega,by omega,by go_num,by rw[HNX.out,told20];exact HS3,HGG,by rw[HNX.out,told20];exact HKK,HFF⟩
   ·by_cases y21:xk=21
    ·subst y21
     obtain⟨fnu,ft,fl,rfl,hfn⟩:∃(fnu:Int) (ft:List UInt8) (fl:List Pars.Node),xl=[.mk 9 fnu ft fl]∧Wri.name ft=true:=by
      have h:=HRT.out
      cases h with
      | def_ _ _ f hk ht hf=>
       obtain⟨k2,nu2,t2,l2⟩:=f
       obtain rfl:k2=9:=hk
       have ht:t2≠[]:=ht
       cases hf with
       | func _ _ _ _ _ hn _ _ _=>exact⟨_,_,_,rfl,hn.resolve_left ht⟩
     have hnl:=Scopy.name_len hfn
     obtain⟨bx,capx,Cx,cssx,q1,q2,q3,q4,q5,q6⟩:=HC5.out.row (by simp)
     subst q1
     obtain⟨a2,c2,vx2,p1,p2,p3,p4,p5,p6⟩:=q6.kid (i:=0) rfl
     have p4:Cells4 Cx 0 (nc 9 fnu ft vx2):=p4
     have p5:KidsIn wr a2 c2 fl vx2:=p5
     have hbxw:bx<w.heap.size:=by have:=HHH.out;omega
     have hbxn:=HND.out.ni bx (by omega) (by omega)
     have hgbx:g≠bx:=by rintro rfl;omega
     have hfl:Scopy.told (Scopy.hs known dk nm) (.mk 21 xn xt [.mk 9 fnu ft fl]) (Scopy.done (Scopy.told (Scopy.hs known dk nm)) ks ((Scopy.hs known dk nm).push 0 s) j).1=(((Scopy.hs known dk nm).decl 21 ft (Scopy.done (Scopy.told (Scopy.hs known dk nm)) ks ((Scopy.hs known dk nm).push 0 s) j).1).1,.mk 21 xn xt [.mk 9 fnu ((Scopy.hs known dk nm).decl 21 ft (Scopy.done (Scopy.told (Scopy.hs known dk nm)) ks ((Scopy.hs known dk nm).push 0 s) j).1).2 fl]):=told21 _ _ _ _ _ _
     rw[hfl] at HFX HNX
     have HQ6:=hid q6
     have HP:=hid (And.intro p4 p5)
     have HP6:=hid p6
     clear q6 p4 p5 p6 hfl
     go_wp2_with fail
     refine (tell_st HSj.out 21 HQ6.out.box HP.out.1 (hng bx hbxw hbxn.1) (hnR bx hbxw hbxn.2) (by omega) (by omega) HFX.out).mono ?_
     rintro e w2 ⟨rfl,dv2,C3,hs2,b1,b2,b3,b4⟩
     have hs3:=hs2.regrow (w0:=w1) HFj.out.size (fun i hi=>HS1.out.nR i hi) HS1.out.kL HS1.out.kw
     have hF:∀i,i<w.heap.size→¬LS i→i≠bx→¬(Grow LS w1 wr i∨i=bx∨i=w.heap.size):=fun i h1 h2 h3 h=>by
      rcases h with h | h | h
      ·exact hng i h1 h2 h
      ·exact h3 h
      ·omega
     have hL:∀i,lo≤i→i<hi→i<w.heap.size∧¬LS i:=fun i h1 h2=>⟨by have:=HHH.out;omega,(HND.out.ni i h1 h2).1⟩
     obtain⟨cssx2,hrowx⟩:=HP6.out w2 _ C3 (.mk 9 fnu ((Scopy.hs known dk nm).decl 21 ft (Scopy.done (Scopy.told (Scopy.hs known dk nm)) ks ((Scopy.hs known dk nm).push 0 s) j).1).2 fl) b4 (fun i q1 q2 q3=>hF i (hL i (by omega) (by omega)).1 (hL i (by omega) (by omega)).2 (by omega)) b1 b2 b3 (HP.out.2.fr b4 fun i q1 q2=>hF i (hL i (by omega) (by omega)).1 (hL i (by omega) (by omega)).2 (by omega))
     have hkx:=hrowx.kids (lo:=a) (cap:=capx) q4 q5 q2 q3 (m:=1) rfl
     obtain⟨css2,hrow⟩:=HK6.out w2 _ C2 (.mk 21 xn xt [.mk 9 fnu ((Scopy.hs known dk nm).decl 21 ft (Scopy.done (Scopy.told (Scopy.hs known dk nm)) ks ((Scopy.hs known dk nm).push 0 s) j).1).2 fl]) b4 (fun i q1 q2 q3=>hF i (hL i (by omega) (by omega)).1 (hL i (by omega) (by omega)).2 (by omega)) (b4.box HR6.out.box (hF b hbw hbn.1 (by omega))) (Same4.refl _ _) HC4.out hkx
     have hkk:=hrow.kids (lo:=lo) (cap:=cap) h4 h5 (by rw[List.length_set];exact h2) h3 (m:=ks.length) (by rw[List.length_set,Scopy.done_len])
     have hgg2:=b4.box HGj.out (hF g hgw HND.out.ng hgbx)
     have hff:Fr w1 w2 (fun i=>LS i∨i=w.heap.size∨(lo≤i∧i<hi)):=HFj.out.step b4 fun i hi e=>by
      rcases e with e | e | e
      ·rcases e.2 with e | e
       ·exact .inl e
       ·omega
      ·right;right;omega
      ·exact .inr (.inl e)
     have HS3:=hid hs3
     have HKK:=hid hkk
     have HGG:=hid hgg2
     have HFF:=hid hff
     clear hs2 hs3 hkk hgg2 hff hrow hrowx hkx b1 b2 b3 b4
     go_wp2_with fail
     go_roundg (n - (j+1))
     case measure=>omega
     case rel=>exact⟨j+1,dv2,by omega,by omega,by go_num,by rw[HNX.out];exact HS3,HGG,by rw[HNX.out];exact HKK,HFF⟩
    ·go_wp2_with fail
     go_roundg (n - (j+1))
     case measure=>omega
     case rel=>
      have e:=told_no (known:=known) (dk:=dk) (nm:=nm) (.mk xk xn xt xl) (Scopy.done (Scopy.told (Scopy.hs known dk nm)) ks ((Scopy.hs known dk nm).push 0 s) j).1 y20 y21
      rw[e] at HNX
      exact⟨j+1,dvj,by omega,by omega,by go_num,by rw[HNX.out];exact HSj,HGj,by rw[HNX.out,Scopy.set_self (Scopy.done_at _ _ HX.out)];exact HKj,HFj⟩
  ·have hltz:¬(j:Int)<(n:Int):=by omega
   have hltd:decide ((j:Int)<(n:Int))=false:=decide_eq_false hltz
   obtain rfl:j=n:=by omega
   subst hn
   rw[Scopy.done_all] at HSj HKj
   obtain⟨q,hq⟩:∃q,Scopy.mapA (Scopy.told (Scopy.hs known dk nm)) ks ((Scopy.hs known dk nm).push 0 s)=q:=⟨_,rfl⟩
   have hql:q.2.length=ks.length:=by rw[←hq,Scopy.mapA_len]
   have HTD:Hid (q.1.top.deep=s.top.deep):=hid (by
    have:=Scopy.done_told_deep (known:=known) (dk:=dk) (nm:=nm) ks ((Scopy.hs known dk nm).push 0 s) ks.length
    rw[Scopy.done_all,hq] at this
    exact this)
   rw[hq] at HSj HKj HF1 HF2 HL1 HDL ⊢
   have HQL:=hid hql
   have HQ:=hid hq
   have gj3:wr.cell? ⟨g,o+3,none⟩=some (.slice A ks.length cap):=by rw[HGj.out.cell];exact hnd3
   clear hq hql HF2 g3 HG1 HK1
   obtain⟨n,hn⟩:∃n,ks.length=n:=⟨_,rfl⟩
   rw[hn] at hltz hltd hnd3 gj3 HQL
   go_upto_region 12 with fail
   go_loopg [55] n (fun gg s55 wx=>∃(j:Nat) (dv' uv':Value),j≤n∧n - j≤gg∧s55= .int .i64 (j:Int)∧Hid (StPre wx l B kb kv known dk nm (Grow LS w1 wx) (fun i=>RS i∨i=w.heap.size∨i=w.heap.size+1) (Scopy.done (Scopy.tr (Scopy.hs known dk nm) N) q.2 q.1 j).1 (w.heap.size+1) w.heap.size (at_ tb 0) dv' uv')∧Hid (Box wx g 24 C)∧Hid (KidsIn wx lo hi (Scopy.done (Scopy.tr (Scopy.hs known dk nm) N) q.2 q.1 j).2 (.slice A ks.length cap))∧Hid (Fr w1 wx (fun i=>LS i∨i=w.heap.size∨(lo≤i∧i<hi))))
   case atStart=>exact⟨0,dvj,uv,Nat.zero_le _,by omega,rfl,by rw[Scopy.done_zero];exact HSj,HGj,by rw[Scopy.done_zero];exact HKj,HFj⟩
   case round=>
    clear HSj HGj HKj HFj gj3 hltz hltd hgg hj
    obtain⟨j,dvj,uvj,hj,hgg,rfl,HSj,HGj,HKj,HFj⟩:=hrel
    by_cases hlt:j<n
    ·have hltz:(j:Int)<(n:Int):=by omega
     have hltd:decide ((j:Int)<(n:Int))=true:=decide_eq_true hltz
     obtain⟨x,hx⟩:∃x,q.2[j]? =some x:=⟨_,List.getElem?_eq_getElem (by rw[HQL.out];exact hlt)⟩
     obtain⟨b,cap',C2,css,h1,h2,h3,h4,h5,h6⟩:=HKj.out.row (by rw[Scopy.done_len,HQL.out];omega)
     obtain⟨e1,_,e3⟩:=slice_inj h1
     subst e1 e3
     obtain⟨a,c,vx,k1,k2,k3,k4,k5,k6⟩:=h6.kid (Scopy.done_at _ _ hx)
     have hbw:b<w.heap.size:=by have:=HHH.out;omega
     have hbn:=HND.out.ni b h4 h5
     have hgi:=HND.out.gi
     have hgw:=HND.out.node.lt
     have hzz:=HZ1.out
     have hgb:g≠b:=by rintro rfl;omega
     have hng:∀i,i<w.heap.size→¬LS i→¬Grow LS w1 wr i:=fun i h1 h2=>Grow.not h2 (by omega)
     have hnR:∀i,i<w.heap.size→¬RS i→¬(RS i∨i=w.heap.size∨i=w.heap.size+1):=fun i h1 h2 h=>by
      rcases h with h | h | h
      ·exact h2 h
      ·omega
      ·omega
     have hkb:kb≤b:=by have:=HND.out.kl;omega
     have hnx:=Scopy.done_succ (Scopy.tr (Scopy.hs known dk nm) N) q.1 hx
     have hfx:=Scopy.done_back (Scopy.tr_back (Scopy.few_back known dk nm) N) (l:=q.2) (s:=q.1) (j+1) HF1.out
     rw[hnx] at hfx
     have hL:∀i,lo≤i→i<hi→i<w.heap.size∧¬LS i∧¬RS i:=fun i h1 h2=>⟨by have:=HHH.out;omega,HND.out.ni i h1 h2⟩
     have hnd:NdPre wr kb (Grow LS w1 wr) (fun i=>RS i∨i=w.heap.size∨i=w.heap.size+1) b (j * 4) a c C2 x vx:=⟨h6.box,k4,k5,hng b hbw hbn.1,hnR b hbw hbn.2,by omega,fun i q1 q2=>⟨hng i (hL i (by omega) (by omega)).1 (hL i (by omega) (by omega)).2.1,hnR i (hL i (by omega) (by omega)).1 (hL i (by omega) (by omega)).2.2⟩,by have:=HFj.out.size;have:=HHH.out;omega,hkb,by omega⟩
     have hxm:=List.mem_of_getElem? hx
     have hxr:=(HL1.out x hxm).2
     have hxd:=deep_mem hxm
     rw[HDL.out] at hxd
     have hd0:=HD.out
     simp only[Pars.deep] at hd0
     have gj3:wr.cell? ⟨g,o+3,none⟩=some (.slice (some ⟨b,0,none⟩) n cap):=by rw[HGj.out.cell];exact hnd3
     have HNX:=hid hnx
     have HFX:=hid hfx
     have HNDX:=hid hnd
     have HK6:=hid k6
     have HX:=hid (And.intro hx hxr)
     have HR6:=hid h6
     have HTP:Hid ((Scopy.done (Scopy.tr (Scopy.hs known dk nm) N) q.2 q.1 j).1.top.deep=s.top.deep):=hid (by rw[Scopy.done_top];exact HTD.out)
     clear hnx hfx hnd k4 k5 k6 hx hxr h6 h1 hxm
     go_wp2_with fail
     refine (IH.out wr (Grow LS w1 wr) _ _ _ _ _ _ _ b (j * 4) a c C2 x vx fn lp HSj.out HNDX.out HX.out.2 (by omega) (by rw[HTP.out];omega) HFX.out).mono ?_
     rintro e w2 ⟨rfl,dv2,uv2,C3,b0,b1,b2,b3,b4,b5⟩
     have hF:∀i,i<w.heap.size→¬LS i→i≠b→(i<a∨c≤i)→¬Touch (Grow LS w1 wr) b a c i:=fun i h1 h2 h3 h4 h=>by
      rcases h with h | h | h
      ·exact hng i h1 h2 h
      ·exact h3 h
      ·omega
     have hfz:=HFj.out.size
     have hhh:=HHH.out
     have hkk0:=HND.out.kl
     have hs2:=HSj.out.next b5 b0 (fun i hi=>by
      have h0:=HSj.out.nR i hi
      rintro (e | e | e)
      ·exact h0.1 e
      ·subst e
       exact hnR i hbw hbn.2 hi
      ·exact hnR i (by omega) (hL i (by omega) (by omega)).2.2 hi) (fun i hi=>by
      rintro (e | e | e)
      ·have:=HSj.out.kL i e;omega
      ·omega
      ·omega) (Scopy.rooms_same known dk nm N x _) (Scopy.tr_tells N x _ HSj.out.tells) (Scopy.tr_more N x _)
     have hs3:=hs2.regrow (w0:=w1) hfz (fun i hi=>HS1.out.nR i hi) HS1.out.kL HS1.out.kw
     obtain⟨css2,hrow⟩:=HK6.out w2 _ C3 (Scopy.tr (Scopy.hs known dk nm) N x (Scopy.done (Scopy.tr (Scopy.hs known dk nm) N) q.2 q.1 j).1).2 b5 (fun i q1 q2 q3=>hF i (hL i (by omega) (by omega)).1 (hL i (by omega) (by omega)).2.1 (by omega) q3) b1 b2 (by rw[Scopy.tr_kind,Scopy.tr_num];exact b3) b4
     have hkk:=hrow.kids (lo:=lo) (cap:=cap) h4 h5 (by rw[List.length_set];exact h2) h3 (m:=ks.length) (by rw[List.length_set,Scopy.done_len,HQL.out,hn])
     have hgg2:=b5.box HGj.out (hF g hgw HND.out.ng hgb (by omega))
     have hff:Fr w1 w2 (fun i=>LS i∨i=w.heap.size∨(lo≤i∧i<hi)):=HFj.out.step b5 fun i hi e=>by
      rcases e with e | e | e
      ·rcases e.2 with e | e
       ·exact .inl e
       ·omega
      ·right;right;omega
      ·right;right;omega
     have HS3:=hid hs3
     have HKK:=hid hkk
     have HGG:=hid hgg2
     have HFF:=hid hff
     clear hs2 hs3 hkk hgg2 hff hrow b0 b1 b2 b3 b4 b5
     go_wp2_with fail
     go_roundg (n - (j+1))
     case measure=>omega
     case rel=>exact⟨j+1,dv2,uv2,by omega,by omega,by go_num,by rw[HNX.out];exact HS3,HGG,by rw[HNX.out];exact HKK,HFF⟩
    ·have hltz:¬(j:Int)<(n:Int):=by omega
     have hltd:decide ((j:Int)<(n:Int))=false:=decide_eq_false hltz
     obtain rfl:j=n:=by omega
     have HQL2:Hid (q.2.length=j):=HQL
     rw[←HQL2.out,Scopy.done_all] at HSj HKj
     go_wp2_with fail
     refine bodyPost_end (results_none rfl _ _ _) rfl ?_
     have hz:=HZ1.out
     have hz2:=HFj.out.size
     subst hn
     rw[HQ.out]
     exact⟨rfl,dvj,uvj,C,(HSj.out.lk.sets (fun i hi=>⟨hi.1,hi.2.imp id (fun e=>by omega)⟩) (fun i hi=>hi.1)).state rfl rfl rfl,HGj.out,Same4.refl C o,HND.out.cells,HKj.out,(Fr.below HB1.out _).step HFj.out fun i hi e=>by
      rcases e with e | e | e
      ·exact .inl e
      ·omega
      ·exact .inr (.inr e)⟩
end Go.Proofs.YtflmjbmdmoifhaaGreatDoor
namespace Go.Proofs.YtflmjbmdmoifhaaGreatDoor
open Go.Lib (hid)
open Go.RowKit
structure KSt (w wr:World) (l B kb:Nat) (kv:Value) (known:List (List UInt8)) (dk:Int) (nm:List UInt8) (LS RS X:Nat→Prop) (s:Scopy.St) (tb tm:Nat) (out dv uv:Value) (g lo hi:Nat) (C:Array Value) (ks:List Pars.Node) (A:Option Addr) (m cap:Nat):Prop where
 st:StPre wr l B kb kv known dk nm (Grow LS w wr) RS s tb tm out dv uv
 node:Box wr g 24 C
 kids:KidsIn wr lo hi ks (.slice A m cap)
 fr:Fr w wr (fun i=>Touch LS g lo hi i∨X i)
 big:ks.length=m
structure KBase (w:World) (kb:Nat) (LS RS:Nat→Prop) (g lo hi:Nat):Prop where
 ng:¬LS g
 gR:¬RS g
 gi:g<lo∨hi≤g
 gw:g<w.heap.size
 ni:∀i,lo≤i→i<hi→¬LS i∧¬RS i
 hh:hi≤w.heap.size
 kg:kb≤g
 kl:kb≤lo
 nR:∀i,RS i→¬LS i∧i<w.heap.size
 kL:∀i,LS i→kb≤i
 kw:kb≤w.heap.size
section
variable {w wr : World} {l B kb : Nat} {kv : Value} {known : List (List UInt8)} {dk : Int} {nm : List UInt8} {LS RS X : Nat → Prop} {s : Scopy.St} {tb tm : Nat} {out dv uv : Value} {g lo hi : Nat} {C : Array Value} {ks : List Pars.Node} {A : Option Addr} {m cap : Nat}
theorem kbase {o:Nat} {n:Pars.Node} {v:Value} (hst:StPre w l B kb kv known dk nm LS RS s tb tm out dv uv) (hnd:NdPre w kb LS RS g o lo hi C n v):KBase w kb LS RS g lo hi:=
 ⟨hnd.ng,hnd.gR,hnd.gi,hnd.node.lt,hnd.ni,hnd.hh,hnd.kg,hnd.kl,hst.nR,hst.kL,hst.kw⟩
theorem KSt.fit (h:KSt w wr l B kb kv known dk nm LS RS X s tb tm out dv uv g lo hi C ks A m cap):m≤9223372036854775807:=by
 have:=h.big
 rcases Nat.eq_zero_or_pos m with h0 | h0
 ·omega
 ·obtain⟨b,cap',C2,css,h1,h2,h3,_⟩:=h.kids.row (by omega)
  omega
theorem KSt.room (h:KSt w wr l B kb kv known dk nm LS RS X s tb tm out dv uv g lo hi C ks A m cap) (hm:0<m):m≤cap∧cap≤9223372036854775807:=by
 have:=h.big
 obtain⟨b,cap',C2,css,h1,h2,h3,_⟩:=h.kids.row (by omega)
 obtain⟨_,_,e⟩:=slice_inj h1
 omega
theorem KSt.look (h:KSt w wr l B kb kv known dk nm LS RS X s tb tm out dv uv g lo hi C ks A m cap) (hb:KBase w kb LS RS g lo hi) {i:Nat} {x:Pars.Node} (hx:ks[i]? =some x) (oo:Nat) (hoo:i * 4=oo):
  ∃b,A=some ⟨b,0,none⟩∧i<m∧∃a c vx C2,NdPre wr kb (Grow LS w wr) RS b oo a c C2 x vx∧
   ∀(N:Nat) (e:Ending) (w2:World),LookOut wr l B kv dk nm (Grow LS w wr) b oo a c C2 vx x (Scopy.tr (Scopy.hs known dk nm) N x s) e w2→
    e= .returned (.tuple #[])∧∃dv2 uv2,KSt w w2 l B kb kv known dk nm LS RS X (Scopy.tr (Scopy.hs known dk nm) N x s).1 tb tm out dv2 uv2 g lo hi C (ks.set i (Scopy.tr (Scopy.hs known dk nm) N x s).2) A m cap:=by
 subst hoo
 have hil:i<ks.length:=(List.getElem?_eq_some_iff.1 hx).1
 obtain⟨b,cap',C2,css,h1,h2,h3,h4,h5,h6⟩:=h.kids.row (by omega)
 obtain⟨e1,e2,e3⟩:=slice_inj h1
 subst e1 e3
 obtain⟨a,c,vx,k1,k2,k3,k4,k5,k6⟩:=h6.kid hx
 have hwz:=h.fr.size
 have hhh:=hb.hh
 have hgi:=hb.gi
 have hkl:=hb.kl
 have hng:∀i,i<w.heap.size→¬LS i→¬Grow LS w wr i:=fun i h1 h2=>Grow.not h2 h1
 have hL:∀i,lo≤i→i<hi→i<w.heap.size∧¬LS i∧¬RS i:=fun i h1 h2=>⟨by omega,hb.ni i h1 h2⟩
 refine⟨b,rfl,by omega,a,c,vx,C2,⟨h6.box,k4,k5,hng b (hL b h4 h5).1 (hL b h4 h5).2.1,(hL b h4 h5).2.2,by omega,fun i q1 q2=>⟨hng i (hL i (by omega) (by omega)).1 (hL i (by omega) (by omega)).2.1,(hL i (by omega) (by omega)).2.2⟩,by omega,by omega,by omega⟩,fun N e w2 ho=> ?_⟩
 obtain⟨he,dv2,uv2,C3,b0,b1,b2,b3,b4,b5⟩:=ho
 have hF:∀i,i<w.heap.size→¬LS i→i≠b→(i<a∨c≤i)→¬Touch (Grow LS w wr) b a c i:=fun i h1 h2 h3 h4 h=>by
  rcases h with h | h | h
  ·exact hng i h1 h2 h
  ·exact h3 h
  ·omega
 have hs2:=h.st.next b5 b0 (fun i hi=>by
  have h0:=h.st.nR i hi
  rintro (e | e | e)
  ·exact h0.1 e
  ·subst e;exact (hL i h4 h5).2.2 hi
  ·exact (hL i (by omega) (by omega)).2.2 hi) (fun i hi=>by
  rintro (e | e | e)
  ·have:=h.st.kL i e;omega
  ·omega
  ·omega) (Scopy.rooms_same known dk nm N x _) (Scopy.tr_tells N x _ h.st.tells) (Scopy.tr_more N x _)
 have hs3:=hs2.regrow (w0:=w) hwz hb.nR hb.kL hb.kw
 obtain⟨css2,hrow⟩:=k6 w2 _ C3 (Scopy.tr (Scopy.hs known dk nm) N x s).2 b5 (fun i q1 q2 q3=>hF i (hL i (by omega) (by omega)).1 (hL i (by omega) (by omega)).2.1 (by omega) q3) b1 b2 (by rw[Scopy.tr_kind,Scopy.tr_num];exact b3) b4
 refine⟨he,dv2,uv2,hs3,b5.box h.node (hF g hb.gw hb.ng (by omega) (by omega)),hrow.kids (lo:=lo) h4 h5 (by rw[List.length_set];exact h2) h3 (by rw[List.length_set];exact h.big),h.fr.step b5 fun i hi e=> ?_,by rw[List.length_set];exact h.big⟩
 rcases e with e | e | e
 ·rcases e.2 with e | e
  ·exact .inl (.inl e)
  ·omega
 ·left;right;right;omega
 ·left;right;right;omega
theorem KSt.tell (h:KSt w wr l B kb kv known dk nm LS RS X s tb tm out dv uv g lo hi C ks A m cap) (hb:KBase w kb LS RS g lo hi) (hX:X tm) {i:Nat} {x:Pars.Node} (hx:ks[i]? =some x) (tl:x.text.length≤4000000) (kd:Int) (hf:Scopy.Few ((Scopy.hs known dk nm).decl kd x.text s).1) (oo:Nat) (hoo:i * 4=oo):
  ∃b,A=some ⟨b,0,none⟩∧i<m∧Calls Tryz.prog 42 #[at_ l 0,at_ tb 0,.int .i64 kd,at_ b oo] wr fun e w2=>e= .returned (.tuple #[])∧
   ∃dv2,KSt w w2 l B kb kv known dk nm LS RS X ((Scopy.hs known dk nm).decl kd x.text s).1 tb tm out dv2 uv g lo hi C (ks.set i (.mk x.kind x.num ((Scopy.hs known dk nm).decl kd x.text s).2 x.kids)) A m cap:=by
 subst hoo
 have hil:i<ks.length:=(List.getElem?_eq_some_iff.1 hx).1
 obtain⟨b,cap',C2,css,h1,h2,h3,h4,h5,h6⟩:=h.kids.row (by omega)
 obtain⟨e1,e2,e3⟩:=slice_inj h1
 subst e1 e3
 obtain⟨a,c,vx,k1,k2,k3,k4,k5,k6⟩:=h6.kid hx
 have hwz:=h.fr.size
 have hhh:=hb.hh
 have hgi:=hb.gi
 have hkl:=hb.kl
 have hng:∀i,i<w.heap.size→¬LS i→¬Grow LS w wr i:=fun i h1 h2=>Grow.not h2 h1
 have hL:∀i,lo≤i→i<hi→i<w.heap.size∧¬LS i∧¬RS i:=fun i h1 h2=>⟨by omega,hb.ni i h1 h2⟩
 refine⟨b,rfl,by omega,(tell_st h.st kd h6.box k4 (hng b (hL b h4 h5).1 (hL b h4 h5).2.1) (hL b h4 h5).2.2 tl (by omega) hf).mono ?_⟩
 rintro e w2 ⟨rfl,dv2,C3,hs2,b1,b2,b3,b4⟩
 have htm:RS tm:=h.st.rt.2.1
 have hF:∀i,i<w.heap.size→¬LS i→¬RS i→i≠b→¬(Grow LS w wr i∨i=b∨i=tm):=fun i h1 h2 h3 h4 h=>by
  rcases h with h | h | h
  ·exact hng i h1 h2 h
  ·exact h4 h
  ·exact h3 (h ▸ htm)
 have hs3:=hs2.regrow (w0:=w) hwz hb.nR hb.kL hb.kw
 obtain⟨css2,hrow⟩:=k6 w2 _ C3 (.mk x.kind x.num ((Scopy.hs known dk nm).decl kd x.text s).2 x.kids) b4 (fun i q1 q2 q3=>hF i (hL i (by omega) (by omega)).1 (hL i (by omega) (by omega)).2.1 (hL i (by omega) (by omega)).2.2 (by omega)) b1 b2 b3 (k5.fr b4 fun i q1 q2=>hF i (hL i (by omega) (by omega)).1 (hL i (by omega) (by omega)).2.1 (hL i (by omega) (by omega)).2.2 (by omega))
 refine⟨rfl,dv2,hs3,b4.box h.node (hF g hb.gw hb.ng hb.gR (by omega)),hrow.kids (lo:=lo) h4 h5 (by rw[List.length_set];exact h2) h3 (by rw[List.length_set];exact h.big),h.fr.step b4 fun i hi e=> ?_,by rw[List.length_set];exact h.big⟩
 rcases e with e | e | e
 ·rcases e.2 with e | e
  ·exact .inl (.inl e)
  ·omega
 ·left;right;right;omega
 ·right;rw[e];exact hX
theorem KSt.named {o N:Nat} {k nu:Int} {t:List UInt8} {v:Value} (h:KSt w wr l B kb kv known dk nm LS RS X s tb tm out dv uv g lo hi C ks A m cap) (hb:KBase w kb LS RS g lo hi) (hc:Cells4 C o (nc k nu t v)) (tl:t.length≤4000000) (ih:LookLe N l B kb kv known dk nm) {i:Nat} {x:Pars.Node} (hx:ks[i]? =some x) {fn lp:Bool} (hr:Wri.right x fn lp=true) (hd:Pars.deep x≤N) (hdd:s.top.deep+Pars.deep x≤1000) (hf:Scopy.Few (inRoom known dk nm N k t x s).1) (oo:Nat) (hoo:i * 4=oo):
  ∃b,A=some ⟨b,0,none⟩∧i<m∧Calls Tryz.prog 43 #[at_ l 0,at_ tb 0,at_ g o,at_ b oo] wr fun e w2=>e= .returned (.tuple #[])∧
   ∃dv2 uv2 C',Same4 C C' o∧Cells4 C' o (nc k nu ((Scopy.hs known dk nm).decl k t ((Scopy.hs known dk nm).push 0 s)).2 v)∧KSt w w2 l B kb kv known dk nm LS RS X ((Scopy.hs known dk nm).pop (inRoom known dk nm N k t x s).1) tb tm out dv2 uv2 g lo hi C' (ks.set i (inRoom known dk nm N k t x s).2) A m cap:=by
 subst hoo
 have hil:i<ks.length:=(List.getElem?_eq_some_iff.1 hx).1
 obtain⟨b,cap',C2,css,h1,h2,h3,h4,h5,h6⟩:=h.kids.row (by omega)
 obtain⟨e1,e2,e3⟩:=slice_inj h1
 subst e1 e3
 obtain⟨a,c,vx,k1,k2,k3,k4,k5,k6⟩:=h6.kid hx
 have hwz:=h.fr.size
 have hhh:=hb.hh
 have hgi:=hb.gi
 have hkl:=hb.kl
 have hng:∀i,i<w.heap.size→¬LS i→¬Grow LS w wr i:=fun i h1 h2=>Grow.not h2 h1
 have hL:∀i,lo≤i→i<hi→i<w.heap.size∧¬LS i∧¬RS i:=fun i h1 h2=>⟨by omega,hb.ni i h1 h2⟩
 refine⟨b,rfl,by omega,(named_any ih h.st h.node hc (hng g hb.gw hb.ng) hb.gR hb.kg tl ⟨h6.box,k4,k5,hng b (hL b h4 h5).1 (hL b h4 h5).2.1,(hL b h4 h5).2.2,by omega,fun i q1 q2=>⟨hng i (hL i (by omega) (by omega)).1 (hL i (by omega) (by omega)).2.1,(hL i (by omega) (by omega)).2.2⟩,by omega,by omega,by omega⟩ (by omega) (by omega) hr hd hdd hf).mono ?_⟩
 rintro e w2 ⟨rfl,dv2,uv2,C',C3,b0,b6,b7,b8,b1,b2,b3,b4,b5⟩
 have hF:∀i,i<w.heap.size→¬LS i→i≠g→i≠b→(i<a∨c≤i)→¬(Grow LS w wr i∨i=g∨i=b∨(a≤i∧i<c)):=fun i h1 h2 h0 h3 h4 h=>by
  rcases h with h | h | h | h
  ·exact hng i h1 h2 h
  ·exact h0 h
  ·exact h3 h
  ·omega
 have hrm:((Scopy.hs known dk nm).pop (inRoom known dk nm N k t x s).1).rooms=s.rooms:=by
  show (inRoom known dk nm N k t x s).1.rooms.tail=s.rooms
  unfold inRoom
  rw[Scopy.rooms_same,(Scopy.balanced known dk nm).decl]
  rfl
 have hmore:s.decls.length≤((Scopy.hs known dk nm).pop (inRoom known dk nm N k t x s).1).decls.length:=Nat.le_trans (Scopy.decl_more (known:=known) (dk:=dk) (nm:=nm) k t ((Scopy.hs known dk nm).push 0 s)) (Scopy.tr_more N x _)
 have hs2:=h.st.next b5 b0 (fun i hi=>by
  have h0:=h.st.nR i hi
  rintro (e | e | e | e)
  ·exact h0.1 e
  ·subst e;exact hb.gR hi
  ·subst e;exact (hL i h4 h5).2.2 hi
  ·exact (hL i (by omega) (by omega)).2.2 hi) (fun i hi=>by
  have:=hb.kg
  rintro (e | e | e | e)
  ·have:=h.st.kL i e;omega
  ·omega
  ·omega
  ·omega) hrm (Scopy.tells_pop (dk:=dk) (nm:=nm) _ (Scopy.tr_tells N x _ (Scopy.tells_decl k t _ (Scopy.tells_push (dk:=dk) (nm:=nm) 0 s h.st.tells)))) hmore
 have hs3:=hs2.regrow (w0:=w) hwz hb.nR hb.kL hb.kw
 obtain⟨css2,hrow⟩:=k6 w2 _ C3 (inRoom known dk nm N k t x s).2 b5 (fun i q1 q2 q3=>hF i (hL i (by omega) (by omega)).1 (hL i (by omega) (by omega)).2.1 (by omega) (by omega) q3) b1 b2 (by unfold inRoom;rw[Scopy.tr_kind,Scopy.tr_num];exact b3) b4
 refine⟨rfl,dv2,uv2,C',b7,b8,hs3,b6,hrow.kids (lo:=lo) h4 h5 (by rw[List.length_set];exact h2) h3 (by rw[List.length_set];exact h.big),h.fr.step b5 fun i hi e=> ?_,by rw[List.length_set];exact h.big⟩
 rcases e with e | e | e | e
 ·rcases e.2 with e | e
  ·exact .inl (.inl e)
  ·omega
 ·exact .inl (.inr (.inl e))
 ·left;right;right;omega
 ·left;right;right;omega
theorem KSt.ends (h:KSt w wr l B kb kv known dk nm LS RS X s tb tm out dv uv g lo hi C ks A m cap) (hX:∀i,i<w.heap.size→¬X i) {C0:Array Value} {o:Nat} {n:Pars.Node} {v:Value} {r:Scopy.St×Pars.Node} (hv:v= .slice A m cap) (hs:Same4 C0 C o) (hc:Cells4 C o (nc n.kind n.num r.2.text v)) (hk:r.2.kids=ks) (h1:r.1.decls=s.decls) (h2:r.1.uses=s.uses) (h3:r.1.e=s.e):LookOut w l B kv dk nm LS g o lo hi C0 v n r (.returned (.tuple #[])) wr:=by
 subst hv
 exact⟨rfl,dv,uv,C,h.st.lk.state h1 h2 h3,h.node,hs,hc,by rw[hk];exact h.kids,h.fr.mono fun i hi e=>e.elim id fun e=>absurd e (hX i hi)⟩
end
end Go.Proofs.YtflmjbmdmoifhaaGreatDoor
namespace Scopy
open Pars (Node Bs)
theorem wrong_stays (known:List Bs) (dk:Int) (nm:Bs) (d:List Decl) (u:List (Bs×Int)) (e:Nat) (he:e≠0):Stays (hs known dk nm) (fun _=>True) (fun s=>s.decls=d∧s.uses=u∧s.e=e) (fun _=>True) where
 push _ _ _:=trivial
 pop _ _:=trivial
 decl _ _ _ _:=trivial
 use _ _ _:=trivial
 pushI _ _ _ i:=i
 pushP _:=trivial
 popI _ _ i:=i
 declI k t s _ i _:=by
  have h:s.e≠0:=by rw[i.2.2];exact he
  simp only[hs,if_pos h];exact i
 declP _ _ _ _:=trivial
 useI t s _ i:=by
  have h:s.e≠0:=by rw[i.2.2];exact he
  simp only[hs,if_pos h];exact i
 declS k t s _ i:=by
  have h:s.e≠0:=by rw[i.2.2];exact he
  simp only[hs,if_pos h]
 useS t s _ i:=by
  have h:s.e≠0:=by rw[i.2.2];exact he
  simp only[hs,if_pos h]
theorem tr_wrong (known:List Bs) (dk:Int) (nm:Bs) (N:Nat) (n:Node) (s:St) (he:s.e≠0):(tr (hs known dk nm) N n s).2=n∧(tr (hs known dk nm) N n s).1.decls=s.decls∧(tr (hs known dk nm) N n s).1.uses=s.uses∧(tr (hs known dk nm) N n s).1.e=s.e:=
 ⟨tr_same (wrong_stays known dk nm s.decls s.uses s.e he) N n s trivial ⟨rfl,rfl,rfl⟩,tr_inv (wrong_stays known dk nm s.decls s.uses s.e he).toKeeps N n s trivial ⟨rfl,rfl,rfl⟩⟩
end Scopy
namespace Go.Proofs.YtflmjbmdmoifhaaGreatDoor
open Go.Lib (hid)
open Go.RowKit
section
variable {N l B kb : Nat} {kv : Value} {known : List (List UInt8)} {dk : Int} {nm : List UInt8} {w : World} {LS RS : Nat → Prop} {s : Scopy.St} {tb tm : Nat} {out dv uv : Value} {g o lo hi : Nat} {C : Array Value} {n : Pars.Node} {v : Value} {fn lp : Bool}
theorem look_wrong (hst:StPre w l B kb kv known dk nm LS RS s tb tm out dv uv) (hnd:NdPre w kb LS RS g o lo hi C n v) (he:s.e≠0):Calls Tryz.prog 27 #[at_ l 0,at_ tb 0,at_ g o] w (LookOut w l B kv dk nm LS g o lo hi C v n (Scopy.tr (Scopy.hs known dk nm) N n s)):=by
 have l3:=hst.lk.box.cell 3
 simp[lkc] at l3
 have hne:(((s.e:Nat):Int) != 0)=true:=by simp[he]
 obtain⟨h1,h2,h3,h4⟩:=Scopy.tr_wrong known dk nm N n s he
 have HO:Hid (LookOut w l B kv dk nm LS g o lo hi C v n (Scopy.tr (Scopy.hs known dk nm) N n s) (.returned (.tuple #[])) w):=⟨rfl,dv,uv,C,(hst.lk.sets (fun i hi=>⟨hst.lk.lt i hi,.inl hi⟩) (fun i hi=>hi.1)).state h2 h3 h4,hnd.node,Same4.refl C o,by rw[h1];exact hnd.cells,by rw[h1];exact hnd.kids,Fr.refl w _⟩
 clear h1 h2 h3 h4 hst hnd
 go_enter Tryz.func27,Tryz.ntmps27
 go_wp2_with fail
 refine bodyPost_ret (results_none rfl _ _ _) rfl ?_
 exact HO.out
set_option maxRecDepth 100000 in
set_option maxHeartbeats 4000000 in
theorem look_use {nu:Int} {t:List UInt8} {ks:List Pars.Node} (hst:StPre w l B kb kv known dk nm LS RS s tb tm out dv uv) (hnd:NdPre w kb LS RS g o lo hi C (.mk 5 nu t ks) v) (he:s.e=0) (hr:Wri.right (.mk 5 nu t ks) fn lp=true) (hf:Scopy.Few (Scopy.tr (Scopy.hs known dk nm) (N+1) (.mk 5 nu t ks) s).1):
  Calls Tryz.prog 27 #[at_ l 0,at_ tb 0,at_ g o] w (LookOut w l B kv dk nm LS g o lo hi C v (.mk 5 nu t ks) (Scopy.tr (Scopy.hs known dk nm) (N+1) (.mk 5 nu t ks) s)):=by
 rw[Scopy.tr5] at hf ⊢
 have hf0:=(Scopy.few_back known dk nm).use _ _ hf
 have l3:=hst.lk.box.cell 3
 simp[lkc,he] at l3
 have n0:w.cell? ⟨g,o,none⟩=some (.int .i64 5):=by rw[hnd.node.cell];exact hnd.cells 0 (by omega)
 obtain⟨rfl,hnm⟩:ks=[]∧Wri.name t=true:=by
  have h:=Wri.rt_of _ _ _ hr
  cases h with
  | var _ _ _ h=>exact⟨rfl,h⟩
 have HU:=hid (use_any hst.lk ⟨hnd.node,hnd.cells,hst.rooms hf0,hnd.ng,fun i hi=>(hst.nR i hi).1,hnd.gR,by have:=Scopy.name_len hnm;show t.length≤4000000;omega⟩ (top_cons hst.ne) he hst.tells hst.big hf0.2 hf0.1 hst.kn hst.kL)
 have HK:=hid hnd.kids
 have HNI:=hid hnd.ni
 have HGI:=hid hnd.gi
 clear hst hnd hf hr
 go_enter Tryz.func27,Tryz.ntmps27
 go_wp2_with fail
 refine HU.out.mono ?_
 rintro e w2 ⟨rfl,dv2,uv2,C2,h1,h2,h3,h4,h5⟩
 go_wp2_with fail
 refine bodyPost_end (results_none rfl _ _ _) rfl ?_
 refine⟨rfl,dv2,uv2,C2,h1,h2,h3,h4,HK.out.fr h5 fun i q1 q2 e=> ?_,h5.mono fun i _ e=>e.elim .inl fun e=> .inr (.inl e)⟩
 have:=HGI.out
 rcases e with e | e
 ·exact (HNI.out i q1 q2).1 e
 ·omega
theorem look_block {nu:Int} {t:List UInt8} {ks:List Pars.Node} (hnm:0≤dk→Wri.name nm=true) (ih:LookLe N l B kb kv known dk nm) (hst:StPre w l B kb kv known dk nm LS RS s tb tm out dv uv) (hnd:NdPre w kb LS RS g o lo hi C (.mk 30 nu t ks) v) (he:s.e=0) (hr:Wri.right (.mk 30 nu t ks) fn lp=true) (hd:Pars.deep (.mk 30 nu t ks)≤N+1) (hdd:s.top.deep+Pars.deep (.mk 30 nu t ks)≤1000) (hf:Scopy.Few (Scopy.tr (Scopy.hs known dk nm) (N+1) (.mk 30 nu t ks) s).1):
  Calls Tryz.prog 27 #[at_ l 0,at_ tb 0,at_ g o] w (LookOut w l B kv dk nm LS g o lo hi C v (.mk 30 nu t ks) (Scopy.tr (Scopy.hs known dk nm) (N+1) (.mk 30 nu t ks) s)):=by
 have l3:=hst.lk.box.cell 3
 simp[lkc,he] at l3
 have n0:w.cell? ⟨g,o,none⟩=some (.int .i64 30):=by rw[hnd.node.cell];exact hnd.cells 0 (by omega)
 have HU:=hid (block_any hnm ih hst hnd hr hd hdd hf)
 clear hst hnd hr hd hdd hf
 go_enter Tryz.func27,Tryz.ntmps27
 go_wp2_with fail
 refine HU.out.mono ?_
 rintro e w2 ⟨rfl,h1⟩
 go_wp2_with fail
 refine bodyPost_end (results_none rfl _ _ _) rfl ?_
 exact⟨rfl,h1⟩
end
end Go.Proofs.YtflmjbmdmoifhaaGreatDoor
namespace Go.Proofs.YtflmjbmdmoifhaaGreatDoor
open Go.Lib (hid)
open Go.RowKit
section
variable {N l B kb : Nat} {kv : Value} {known : List (List UInt8)} {dk : Int} {nm : List UInt8} {w : World} {LS RS : Nat → Prop} {s : Scopy.St} {tb tm : Nat} {out dv uv : Value} {g o lo hi : Nat} {C : Array Value} {n : Pars.Node} {v : Value} {fn lp : Bool}
def NoX:Nat→Prop:=fun _=>False
theorem kst0 {A:Option Addr} {cap:Nat} (hst:StPre w l B kb kv known dk nm LS RS s tb tm out dv uv) (hnd:NdPre w kb LS RS g o lo hi C n (.slice A n.kids.length cap)):KSt w w l B kb kv known dk nm LS RS NoX s tb tm out dv uv g lo hi C n.kids A n.kids.length cap:=
 ⟨hst.grow0,hnd.node,hnd.kids,Fr.refl w _,rfl⟩
theorem tr_plain {k nu:Int} (t:List UInt8) (ks:List Pars.Node) (s:Scopy.St) (h5:k≠5) (h30:k≠30) (h9:k≠9) (h24:k≠24) (h29:¬(k=29∧nu≠2)) (hr:Wri.right (.mk k nu t ks) fn lp=true):Scopy.tr (Scopy.hs known dk nm) (N+1) (.mk k nu t ks) s=((Scopy.mapA (Scopy.tr (Scopy.hs known dk nm) N) ks s).1,.mk k nu t (Scopy.mapA (Scopy.tr (Scopy.hs known dk nm) N) ks s).2):=by
 by_cases h21:k=21
 ·subst h21
  rw[Scopy.tr21,if_pos]
  have h:=Wri.rt_of _ _ _ hr
  cases h with
  | def_ _ _ f hk _ _=>simp[Scopy.fn1,hk]
 ·exact Scopy.trd _ _ _ _ h5 h30 h9 h21 h24 h29 t ks s
theorem rights_each:∀(l:List Pars.Node) (gg:List UInt8) (k:Int) (fn lp:Bool) (i:Nat),Wri.rights gg k fn lp i l=true→∀x∈l,∃fn2 lp2,Wri.right x fn2 lp2=true
 | [],_,_,_,_,_,_,x,hx=>by cases hx
 | a :: l,gg,k,fn,lp,i,h,x,hx=>by
  rw[Wri.rights_cons] at h
  simp only[Bool.and_eq_true] at h
  rcases List.mem_cons.1 hx with rfl | hx
  ·exact⟨_,_,h.2.1⟩
  ·exact rights_each l gg k fn lp (i+1) h.2.2 x hx
theorem right_kids {k nu:Int} {t:List UInt8} {ks:List Pars.Node} (hr:Wri.right (.mk k nu t ks) fn lp=true):∀x∈ks,∃fn2 lp2,Wri.right x fn2 lp2=true:=by
 rw[Wri.right_eq] at hr
 simp only[Bool.and_eq_true] at hr
 exact rights_each ks _ _ _ _ _ hr.2.2.2.2.2
set_option maxRecDepth 100000 in
set_option maxHeartbeats 8000000 in
theorem look_kids {k nu:Int} {t:List UInt8} {ks:List Pars.Node} (ih:LookLe N l B kb kv known dk nm) (hst:StPre w l B kb kv known dk nm LS RS s tb tm out dv uv) (hnd:NdPre w kb LS RS g o lo hi C (.mk k nu t ks) v) (he:s.e=0) (hr:Wri.right (.mk k nu t ks) fn lp=true) (hd:Pars.deep (.mk k nu t ks)≤N+1) (hdd:s.top.deep+Pars.deep (.mk k nu t ks)≤1000) (hf:Scopy.Few (Scopy.tr (Scopy.hs known dk nm) (N+1) (.mk k nu t ks) s).1)
  (h5:k≠5) (h30:k≠30) (h9:k≠9) (h24:k≠24) (h29:k≠29):
  Calls Tryz.prog 27 #[at_ l 0,at_ tb 0,at_ g o] w (LookOut w l B kv dk nm LS g o lo hi C v (.mk k nu t ks) (Scopy.tr (Scopy.hs known dk nm) (N+1) (.mk k nu t ks) s)):=by
 rw[tr_plain t ks s h5 h30 h9 h24 (fun h=>h29 h.1) hr] at hf ⊢
 have l3:=hst.lk.box.cell 3
 simp[lkc,he] at l3
 have n0:w.cell? ⟨g,o,none⟩=some (.int .i64 k):=by rw[hnd.node.cell];exact hnd.cells 0 (by omega)
 obtain⟨A,cap,hv⟩:=KidsIn.slice hnd.kids
 have hv:v= .slice A ks.length cap:=hv
 subst hv
 have HC3:=hid (hnd.cells 3 (by omega))
 have HB:=hid (kbase hst hnd)
 have HK0:Hid (KSt w w l B kb kv known dk nm LS RS NoX s tb tm out dv uv g lo hi C ks A ks.length cap):=hid (kst0 hst hnd)
 have HC:=hid hnd.cells
 have HR:=hid (right_kids hr)
 simp only[Pars.deep] at hd hdd
 have HD:=hid (And.intro hd hdd)
 have HF:=hid hf
 have IH:=hid ih
 obtain⟨m,hm⟩:∃m,ks.length=m:=⟨_,rfl⟩
 have HM:=hid hm
 have g3:w.cell? ⟨g,o+3,none⟩=some (.slice A m cap):=by rw[hnd.node.cell, ←hm];exact HC3.out
 have e5:(k==5)=false:=by simp[h5]
 have e30:(k==30)=false:=by simp[h30]
 have e9:(k==9)=false:=by simp[h9]
 have e24:(k==24)=false:=by simp[h24]
 have e29:(k==29)=false:=by simp[h29]
 clear hst hnd hr hd hdd hf ih
 go_enter Tryz.func27,Tryz.ntmps27
 go_upto_region 3 with fail
 rw[hm] at HK0
 have hm63:=HK0.out.fit
 go_loopg [24] m (fun gg s24 wr=>∃(j:Nat) (dv' uv':Value),j≤m∧m - j≤gg∧s24= .int .i64 (j:Int)∧Hid (KSt w wr l B kb kv known dk nm LS RS NoX (Scopy.done (Scopy.tr (Scopy.hs known dk nm) N) ks s j).1 tb tm out dv' uv' g lo hi C (Scopy.done (Scopy.tr (Scopy.hs known dk nm) N) ks s j).2 A m cap))
 case atStart=>exact⟨0,dv,uv,Nat.zero_le _,by omega,rfl,by rw[Scopy.done_zero];exact HK0⟩
 case round=>
  clear HK0 g3
  obtain⟨j,dvj,uvj,hj,hgg,rfl,HKj⟩:=hrel
  by_cases hlt:j<m
  ·have hltz:(j:Int)<(m:Int):=by omega
   have hltd:decide ((j:Int)<(m:Int))=true:=decide_eq_true hltz
   obtain⟨x,hx⟩:∃x,ks[j]? =some x:=⟨_,List.getElem?_eq_getElem (by rw[hm];exact hlt)⟩
   obtain⟨b,hA,_,a,c,vx,C2,hnd,hnext⟩:=HKj.out.look HB.out (Scopy.done_at _ _ hx) (j * 4) rfl
   subst hA
   have hnx:=Scopy.done_succ (Scopy.tr (Scopy.hs known dk nm) N) s hx
   have hfx:=Scopy.done_back (Scopy.tr_back (Scopy.few_back known dk nm) N) (l:=ks) (s:=s) (j+1) HF.out
   rw[hnx] at hfx
   have hxm:=List.mem_of_getElem? hx
   obtain⟨fn2,lp2,hxr⟩:=HR.out x hxm
   have hxd:=deep_mem hxm
   have hd0:=HD.out
   have htp:(Scopy.done (Scopy.tr (Scopy.hs known dk nm) N) ks s j).1.top=s.top:=Scopy.done_top _ _ _ _
   have gj3:wr.cell? ⟨g,o+3,none⟩=some (.slice (some ⟨b,0,none⟩) m cap):=by rw[HKj.out.node.cell, ←hm];exact HC3.out
   have HCALL:=hid (IH.out wr _ _ _ _ _ _ _ _ b (j * 4) a c C2 x vx fn2 lp2 HKj.out.st hnd hxr (by omega) (by rw[htp];omega) hfx)
   have HNX:=hid hnx
   have HNE:=hid hnext
   clear hnx hfx hnd hnext hx hxm hxr hxd hd0 htp
   go_wp2_with fail
   refine HCALL.out.mono ?_
   rintro e w2 ho
   obtain⟨rfl,dv2,uv2,hk2⟩:=HNE.out N e w2 ho
   have HK2:=hid hk2
   clear hk2 ho
   go_wp2_with fail
   go_roundg (m - (j+1))
   case measure=>omega
   case rel=>exact⟨j+1,dv2,uv2,by omega,by omega,by go_num,by rw[HNX.out];exact HK2⟩
  ·have hltz:¬(j:Int)<(m:Int):=by omega
   have hltd:decide ((j:Int)<(m:Int))=false:=decide_eq_false hltz
   obtain rfl:j=m:=by omega
   subst hm
   rw[Scopy.done_all] at HKj
   go_wp2_with fail
   refine bodyPost_end (results_none rfl _ _ _) rfl ?_
   exact HKj.out.ends (fun _ _ h=>h) rfl (Same4.refl C o) HC.out rfl rfl rfl rfl
set_option maxRecDepth 100000 in
set_option maxHeartbeats 8000000 in
theorem look_for {nu:Int} {t:List UInt8} {ks:List Pars.Node} (ih:LookLe N l B kb kv known dk nm) (hst:StPre w l B kb kv known dk nm LS RS s tb tm out dv uv) (hnd:NdPre w kb LS RS g o lo hi C (.mk 24 nu t ks) v) (he:s.e=0) (hr:Wri.right (.mk 24 nu t ks) fn lp=true) (hd:Pars.deep (.mk 24 nu t ks)≤N+1) (hdd:s.top.deep+Pars.deep (.mk 24 nu t ks)≤1000) (hf:Scopy.Few (Scopy.tr (Scopy.hs known dk nm) (N+1) (.mk 24 nu t ks) s).1):
  Calls Tryz.prog 27 #[at_ l 0,at_ tb 0,at_ g o] w (LookOut w l B kv dk nm LS g o lo hi C v (.mk 24 nu t ks) (Scopy.tr (Scopy.hs known dk nm) (N+1) (.mk 24 nu t ks) s)):=by
 obtain⟨x,y,rfl,hnm,hx,hy⟩:∃x y,ks=[x,y]∧Wri.name t=true∧Wri.right x fn lp=true∧Wri.right y fn true=true:=by
  have h:=Wri.rt_of _ _ _ hr
  cases h with
  | for_ _ _ _ c b hn _ hc _ hb=>exact⟨c,b,rfl,hn,Wri.of_rt hc,Wri.of_rt hb⟩
 have htr:Scopy.tr (Scopy.hs known dk nm) (N+1) (.mk 24 nu t [x,y]) s=((Scopy.hs known dk nm).pop (inRoom known dk nm N 24 t y (Scopy.tr (Scopy.hs known dk nm) N x s).1).1,.mk 24 nu ((Scopy.hs known dk nm).decl 24 t ((Scopy.hs known dk nm).push 0 (Scopy.tr (Scopy.hs known dk nm) N x s).1)).2 [(Scopy.tr (Scopy.hs known dk nm) N x s).2,(inRoom known dk nm N 24 t y (Scopy.tr (Scopy.hs known dk nm) N x s).1).2]):=by
  rw[Scopy.tr24];rfl
 rw[htr] at hf ⊢
 have hf1:Scopy.Few (inRoom known dk nm N 24 t y (Scopy.tr (Scopy.hs known dk nm) N x s).1).1:=(Scopy.few_back known dk nm).pop _ hf
 have hf2:Scopy.Few (Scopy.tr (Scopy.hs known dk nm) N x s).1:=(Scopy.few_back known dk nm).push 0 _ ((Scopy.few_back known dk nm).decl 24 t _ (Scopy.tr_back (Scopy.few_back known dk nm) N y _ hf1))
 have l3:=hst.lk.box.cell 3
 simp[lkc,he] at l3
 have n0:w.cell? ⟨g,o,none⟩=some (.int .i64 24):=by rw[hnd.node.cell];exact hnd.cells 0 (by omega)
 obtain⟨A,cap,hv⟩:=KidsIn.slice hnd.kids
 have hv:v= .slice A 2 cap:=hv
 subst hv
 have HC3:=hid (hnd.cells 3 (by omega))
 have HB:=hid (kbase hst hnd)
 have HK0:Hid (KSt w w l B kb kv known dk nm LS RS NoX s tb tm out dv uv g lo hi C [x,y] A 2 cap):=hid (kst0 hst hnd)
 have HC:=hid hnd.cells
 have hd0:=hd
 have hdd0:=hdd
 simp only[Pars.deep,Pars.deeps] at hd0 hdd0
 have HD:Hid (Pars.deep x≤N∧Pars.deep y≤N∧s.top.deep+Pars.deep x≤1000∧s.top.deep+Pars.deep y≤1000):=hid (by omega)
 obtain⟨b,hA,_,a,c,vx,C2,hn1,hnext⟩:=HK0.out.look (x:=x) (i:=0) HB.out rfl 0 rfl
 subst hA
 have g3:w.cell? ⟨g,o+3,none⟩=some (.slice (some ⟨b,0,none⟩) 2 cap):=by rw[hnd.node.cell];exact HC3.out
 have HCALL:=hid (ih w _ _ _ _ _ _ _ _ b 0 a c C2 x vx fn lp HK0.out.st hn1 hx HD.out.1 HD.out.2.2.1 hf2)
 have HNE:=hid hnext
 have IH:=hid ih
 have HY:=hid (And.intro hy hf1)
 have HTL:=hid (Scopy.name_len hnm)
 clear hst hnd hr hd hdd hd0 hdd0 hf ih hx hy hn1 hnext hf1 hf2 htr hnm
 go_enter Tryz.func27,Tryz.ntmps27
 go_wp2_with fail
 refine HCALL.out.mono ?_
 rintro e w2 ho
 obtain⟨rfl,dv2,uv2,hk2⟩:=HNE.out N e w2 ho
 have HK2:=hid hk2
 have htp:(Scopy.tr (Scopy.hs known dk nm) N x s).1.top=s.top:=by unfold Scopy.St.top;rw[Scopy.rooms_same]
 obtain⟨b2,hA2,_,hcall⟩:=hk2.named (x:=y) (i:=1) (t:=t) (N:=N) HB.out HC.out (by have:=HTL.out;omega) IH.out rfl HY.out.1 HD.out.2.1 (by rw[htp];exact HD.out.2.2.2) HY.out.2 4 rfl
 have hA2:=addr_inj hA2
 subst hA2
 have HCALL2:=hid hcall
 have gj3:w2.cell? ⟨g,o+3,none⟩=some (.slice (some ⟨b,0,none⟩) 2 cap):=by rw[HK2.out.node.cell];exact HC3.out
 clear hk2 ho hcall htp g3
 go_wp2_with fail
 refine HCALL2.out.mono ?_
 rintro e w3 ⟨rfl,dv3,uv3,C3,q1,q2,q3⟩
 go_wp2_with fail
 refine bodyPost_end (results_none rfl _ _ _) rfl ?_
 exact q3.ends (fun _ _ h=>h) rfl q1 q2 rfl rfl rfl rfl
end
end Go.Proofs.YtflmjbmdmoifhaaGreatDoor
