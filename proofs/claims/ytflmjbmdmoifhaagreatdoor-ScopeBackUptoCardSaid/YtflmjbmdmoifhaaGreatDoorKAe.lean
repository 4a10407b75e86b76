/-
  Texts that the law leans on: SmF, SmG, SmH, SmI, SmJ. Conditions: as each says.
-/
import Derived.Test.YtflmjbmdmoifhaaGreatDoorKAd
import Derived.Test.YtflmjbmdmoifhaaGreatDoorKAa
set_option linter.unusedSimpArgs false
set_option linter.unusedVariables false
namespace Go.Proofs.YtflmjbmdmoifhaaGreatDoor
open Go.Lib (hid)
open Go.RowKit
theorem told20 {known:List (List UInt8)} {dk:Int} {nm:List UInt8} (nu:Int) (t:List UInt8) (l:List Pars.Node) (s:Scopy.St):Scopy.told (Scopy.hs known dk nm) (.mk 20 nu t l) s=(((Scopy.hs known dk nm).decl 20 t s).1,.mk 20 nu ((Scopy.hs known dk nm).decl 20 t s).2 l):=rfl
theorem told21 {known:List (List UInt8)} {dk:Int} {nm:List UInt8} (nu nu2:Int) (t t2:List UInt8) (l2:List Pars.Node) (s:Scopy.St):Scopy.told (Scopy.hs known dk nm) (.mk 21 nu t [.mk 9 nu2 t2 l2]) s=(((Scopy.hs known dk nm).decl 21 t2 s).1,.mk 21 nu t [.mk 9 nu2 ((Scopy.hs known dk nm).decl 21 t2 s).2 l2]):=rfl
theorem told_no {known:List (List UInt8)} {dk:Int} {nm:List UInt8} (x:Pars.Node) (s:Scopy.St) (h1:x.kind≠20) (h2:x.kind≠21):Scopy.told (Scopy.hs known dk nm) x s=(s,x):=by
 obtain⟨k,nu,t,l⟩:=x
 have h1:k≠20:=h1
 have h2:k≠21:=h2
 simp[Scopy.told,Scopy.hd,h1,h2]
theorem slice_inj {A A':Option Addr} {n n' c c':Nat} (h:(Value.slice A n c)= .slice A' n' c'):A=A'∧n=n'∧c=c':=by injection h with h1 h2 h3;exact⟨h1,h2,h3⟩
theorem addr_inj {b b':Nat} (h:(some ⟨b,0,none⟩:Option Addr)=some ⟨b',0,none⟩):b=b':=by injection h with h;injection h
theorem deep_mem:∀{l:List Pars.Node} {x:Pars.Node},x∈l→Pars.deep x≤Pars.deeps l
 | n :: l,x,h=>by
  simp only[Pars.deeps]
  rcases List.mem_cons.1 h with rfl | h
  ·omega
  ·have:=deep_mem h;omega
theorem fineT {known:List (List UInt8)} {dk:Int} {nm:List UInt8} (hnm:0≤dk→Wri.name nm=true):Scopy.Fine (Scopy.hs known dk nm) (fun _=>True):=
 ⟨fun _ _ _=>trivial,fun _ _=>trivial,fun k t s ht _=>⟨trivial,by
  rcases Scopy.decl_cases (known:=known) (dk:=dk) (nm:=nm) k t s with⟨_,e⟩ | ⟨_,_,e⟩ | ⟨_,_,e⟩<;>rw[e]
  ·exact ht
  ·exact ht
  ·simp only[]
   split
   ·exact hnm (by omega)
   ·exact ht⟩,fun t s ht _=>⟨trivial,by
  rcases Scopy.use_cases (known:=known) (dk:=dk) (nm:=nm) t s with⟨_,e⟩ | ⟨_,k,_,e⟩ | ⟨_,_,_,e⟩ | ⟨_,_,_,e⟩<;>rw[e]
  ·exact ht
  ·simp only[]
   split
   ·exact hnm (by omega)
   ·exact ht
  ·exact ht
  ·exact ht⟩⟩
set_option maxRecDepth 100000 in
set_option maxHeartbeats 8000000 in
theorem block_any {N l B kb:Nat} {kv:Value} {known:List (List UInt8)} {dk:Int} {nm:List UInt8} (hnm:0≤dk→Wri.name nm=true) (ih:LookLe N l B kb kv known dk nm) {w:World} {LS RS:Nat→Prop} {s:Scopy.St} {tb tm:Nat} {out dv uv:Value} {g o lo hi:Nat} {C:Array Value} {nu:Int} {t:List UInt8} {ks:List Pars.Node} {v:Value} {fn lp:Bool}
  (hst:StPre w l B kb kv known dk nm LS RS s tb tm out dv uv) (hnd:NdPre w kb LS RS g o lo hi C (.mk 30 nu t ks) v) (hr:Wri.right (.mk 30 nu t ks) fn lp=true) (hd:Pars.deep (.mk 30 nu t ks)≤N+1) (hdd:s.top.deep+Pars.deep (.mk 30 nu t ks)≤1000) (hf:Scopy.Few (Scopy.tr (Scopy.hs known dk nm) (N+1) (.mk 30 nu t ks) s).1):
  Calls Tryz.prog 40 #[at_ l 0,at_ tb 0,at_ g o] w (LookOut w l B kv dk nm LS g o lo hi C v (.mk 30 nu t ks) (Scopy.tr (Scopy.hs known dk nm) (N+1) (.mk 30 nu t ks) s)):=by
 rw[Scopy.tr30] at hf ⊢
 have hf1:=(Scopy.few_back known dk nm).pop _ hf
 have hf2:=Scopy.mapA_back (Scopy.tr_back (Scopy.few_back known dk nm) N) _ _ hf1
 have hf3:=Scopy.mapA_back (Scopy.told_back (Scopy.few_back known dk nm)) _ _ hf2
 have hf4:Scopy.Few s:=hf3
 obtain⟨hk30,hkr⟩:(∀x∈ks,20≤x.kind∧x.kind≤31)∧(∀x∈ks,Wri.Rt fn lp x):=by
  have h:=Wri.rt_of _ _ _ hr
  cases h with
  | block _ _ _ h1 h2=>exact⟨h1,h2⟩
 have hl1:∀x∈(Scopy.mapA (Scopy.told (Scopy.hs known dk nm)) ks ((Scopy.hs known dk nm).push 0 s)).2,(20≤x.kind∧x.kind≤31)∧Wri.right x fn lp=true:=
  (Scopy.mapA_all (I:=fun _=>True) (Q:=fun a=>(20≤a.kind∧a.kind≤31)∧Wri.right a fn lp=true) (fun a s hq _=>Scopy.told_right (fineT hnm) fn lp a s hq trivial) ks _ (fun x hx=>⟨hk30 x hx,Wri.of_rt (hkr x hx)⟩) trivial).2
 have hdl:Pars.deeps (Scopy.mapA (Scopy.told (Scopy.hs known dk nm)) ks ((Scopy.hs known dk nm).push 0 s)).2=Pars.deeps ks:=Scopy.mapA_deeps (Scopy.told_deep _) _ _
 have r1:=hst.top.cell 1
 simp[rmc] at r1
 have HST:=hid hst
 have HND:=hid hnd
 have HF1:=hid hf1
 have HF2:=hid hf2
 have HF4:=hid hf4
 have IH:=hid ih
 have HK:=hid (And.intro hk30 hkr)
 have HL1:=hid hl1
 have HDL:=hid hdl
 have HD:=hid (And.intro hd hdd)
 obtain⟨A,cap,hv⟩:=KidsIn.slice hnd.kids
 have hv:v= .slice A ks.length cap:=hv
 subst hv
 obtain⟨n,hn⟩:∃n,ks.length=n:=⟨_,rfl⟩
 have HN:=hid hn
 have hnd3:=hnd.cells 3 (by omega)
 clear hst hnd hf hf1 hf2 hf3 hf4 ih hk30 hkr hl1 hdl hd hdd hr hnm
 go_enter Tryz.func40,Tryz.ntmps40
 go_wp2_with fail
 refine (within_room (some ⟨tb,0,none⟩) s.top.deep w).mono ?_
 rintro e w1 ⟨rfl,hb1,hm1,hb,hz1⟩
 have HS1:=hid (HST.out.enter HF4.out 0 hb1 hm1 hb hz1)
 have HB1:=hid hb
 have HZ1:=hid hz1
 have HG1:=hid ((Fr.below hb (fun _=>False)).box HND.out.node (fun h=>h))
 have HK1:=hid (HND.out.kids.fr (Fr.below hb (fun _=>False)) (fun _ _ _ h=>h))
 have HHH:Hid (hi≤w.heap.size):=hid HND.out.hh
 have g3:w1.cell? ⟨g,o+3,none⟩=some (.slice A n cap):=by rw[HG1.out.cell, ←hn];exact hnd3
 clear hb1 hm1 hb hz1 r1
 go_upto_region 2 with fail
 go_loopg [20] n (fun gg s20 wr=>∃(j:Nat) (dv':Value),j≤n∧n - j≤gg∧s20= .int .i64 (j:Int)∧Hid (StPre wr l B kb kv known dk nm (Grow LS w1 wr) (fun i=>RS i∨i=w.heap.size∨i=w.heap.size+1) (Scopy.done (Scopy.told (Scopy.hs known dk nm)) ks ((Scopy.hs known dk nm).push 0 s) j).1 (w.heap.size+1) w.heap.size (at_ tb 0) dv' uv)∧Hid (Box wr g 24 C)∧Hid (KidsIn wr lo hi (Scopy.done (Scopy.told (Scopy.hs known dk nm)) ks ((Scopy.hs known dk nm).push 0 s) j).2 (.slice A ks.length cap))∧Hid (Fr w1 wr (fun i=>LS i∨i=w.heap.size∨(lo≤i∧i<hi))))
 case atStart=>exact⟨0,dv,Nat.zero_le _,by omega,rfl,by rw[Scopy.done_zero];exact HS1.out.grow0,HG1,by rw[Scopy.done_zero];exact HK1,hid (Fr.refl w1 _)⟩
 case round=>
  obtain⟨j,dvj,hj,hgg,rfl,HSj,HGj,HKj,HFj⟩:=hrel
  by_cases hlt:j<n
  ·have hltz:(j:Int)<(n:Int):=by omega
   have hltd:decide ((j:Int)<(n:Int))=true:=decide_eq_true hltz
   obtain⟨x,hx⟩:∃x,ks[j]? =some x:=⟨_,List.getElem?_eq_getElem (by rw[hn];exact hlt)⟩
   obtain⟨b,cap',C2,css,h1,h2,h3,h4,h5,h6⟩:=HKj.out.row (by rw[Scopy.done_len,hn];omega)
   obtain⟨e1,_,e3⟩:=slice_inj h1
   subst e1 e3
   obtain⟨a,c,vx,k1,k2,k3,k4,k5,k6⟩:=h6.kid (Scopy.done_at _ _ hx)
   have hbw:b<w.heap.size:=by have:=HHH.out;omega
   have hbn:=HND.out.ni b h4 h5
   have hgi:=HND.out.gi
   have hgw:=HND.out.node.lt
   have hzz:=HZ1.out
   have hgb:g≠b:=by rintro rfl;omega
   have hng:∀i,i<w.heap.size→¬LS i→¬Grow LS w1 wr i:=fun i h1 h2=>Grow.not h2 (by omega)
   have hnR:∀i,i<w.heap.size→¬RS i→¬(RS i∨i=w.heap.size∨i=w.heap.size+1):=fun i h1 h2 h=>by
    rcases h with h | h | h
    ·exact h2 h
    ·omega
    ·omega
   have hkb:kb≤b:=by have:=HND.out.kl;omega
   have hnx:=Scopy.done_succ (Scopy.told (Scopy.hs known dk nm)) ((Scopy.hs known dk nm).push 0 s) hx
   have hfx:=Scopy.done_back (Scopy.told_back (Scopy.few_back known dk nm)) (l:=ks) (s:=(Scopy.hs known dk nm).push 0 s) (j+1) HF2.out
   rw[hnx] at hfx
   have hrt:=HK.out.2 x (List.mem_of_getElem? hx)
   obtain⟨xk,xn,xt,xl⟩:=x
   have k4:Cells4 C2 (j * 4) (nc xk xn xt vx):=k4
   have k5:KidsIn wr a c xl vx:=k5
   have c0:wr.cell? ⟨b,j * 4,none⟩=some (.int .i64 xk):=by rw[h6.box.cell];exact k4 0 (by omega)
   have c3:wr.cell? ⟨b,j * 4+3,none⟩=some vx:=by rw[h6.box.cell];exact k4 3 (by omega)
   have gj3:wr.cell? ⟨g,o+3,none⟩=some (.slice (some ⟨b,0,none⟩) n cap):=by rw[HGj.out.cell, ←hn];exact hnd3
   have HNX:=hid hnx
   have HFX:=hid hfx
   have HRT:=hid hrt
   have HC4:=hid k4
   have HC5:=hid k5
   have HK6:=hid k6
   have HX:=hid hx
   have HR6:=hid h6
   clear hnx hfx hrt k4 k5 k6 hx h6 h1
   go_upto_region 6 with fail
   by_cases y20:xk=20
   ·subst y20
    have hnm:Wri.name xt=true:=by
     have h:=HRT.out
     cases h with
     | let_ _ _ _ _ h _ _=>exact h
    have hnl:=Scopy.name_len hnm
    go_wp2_with fail
    refine (tell_st HSj.out 20 HR6.out.box HC4.out (hng b hbw hbn.1) (hnR b hbw hbn.2) (by omega) hkb HFX.out).mono ?_
    rintro e w2 ⟨rfl,dv2,C3,hs2,b1,b2,b3,b4⟩
    have hs3:=hs2.regrow (w0:=w1) HFj.out.size (fun i hi=>HS1.out.nR i hi) HS1.out.kL HS1.out.kw
    have hF:∀i,i<w.heap.size→¬LS i→i≠b→¬(Grow LS w1 wr i∨i=b∨i=w.heap.size):=fun i h1 h2 h3 h=>by
     rcases h with h | h | h
     ·exact hng i h1 h2 h
     ·exact h3 h
     ·omega
    obtain⟨css2,hrow⟩:=HK6.out w2 _ C3 (.mk 20 xn ((Scopy.hs known dk nm).decl 20 xt (Scopy.done (Scopy.told (Scopy.hs known dk nm)) ks ((Scopy.hs known dk nm).push 0 s) j).1).2 xl) b4 (fun i q1 q2 q3=>hF i (by have:=HHH.out;omega) (HND.out.ni i (by omega) (by omega)).1 (by omega)) b1 b2 b3 (HC5.out.fr b4 fun i q1 q2=>hF i (by have:=HHH.out;omega) (HND.out.ni i (by omega) (by omega)).1 (by omega))
    have hkk:=hrow.kids (lo:=lo) (cap:=cap) h4 h5 (by rw[List.length_set];exact h2) h3 (m:=ks.length) (by rw[List.length_set,Scopy.done_len])
    have hgg2:=b4.box HGj.out (hF g hgw HND.out.ng hgb)
    have hff:Fr w1 w2 (fun i=>LS i∨i=w.heap.size∨(lo≤i∧i<hi)):=HFj.out.step b4 fun i hi e=>by
     rcases e with e | e | e
     ·rcases e.2 with e | e
      ·exact .inl e
      ·omega
     ·right;right;omega
     ·exact .inr (.inl e)
    have HS3:=hid hs3
    have HKK:=hid hkk
    have HGG:=hid hgg2
    have HFF:=hid hff
    clear hs2 hs3 hkk hgg2 hff hrow b1 b2 b3 b4
    go_wp2_with fail
    go_roundg (n - (j+1))
    case measure=>omega
    case rel=>exact⟨j+1,dv2,by omega,by omega,by go_num,by rw[HNX.out,told20];exact HS3,HGG,by rw[HNX.out,told20];exact HKK,HFF⟩
   ·by_cases y21:xk=21
    ·subst y21
     obtain⟨fnu,ft,fl,rfl,hfn⟩:∃(fnu:Int) (ft:List UInt8) (fl:List Pars.Node),xl=[.mk 9 fnu ft fl]∧Wri.name ft=true:=by
      have h:=HRT.out
      cases h with
      | def_ _ _ f hk ht hf=>
       obtain⟨k2,nu2,t2,l2⟩:=f
       obtain rfl:k2=9:=hk
       have ht:t2≠[]:=ht
       cases hf with
       | func _ _ _ _ _ hn _ _ _=>exact⟨_,_,_,rfl,hn.resolve_left ht⟩
     have hnl:=Scopy.name_len hfn
     obtain⟨bx,capx,Cx,cssx,q1,q2,q3,q4,q5,q6⟩:=HC5.out.row (by simp)
     subst q1
     obtain⟨a2,c2,vx2,p1,p2,p3,p4,p5,p6⟩:=q6.kid (i:=0) rfl
     have p4:Cells4 Cx 0 (nc 9 fnu ft vx2):=p4
     have p5:KidsIn wr a2 c2 fl vx2:=p5
     have hbxw:bx<w.heap.size:=by have:=HHH.out;omega
     have hbxn:=HND.out.ni bx (by omega) (by omega)
     have hgbx:g≠bx:=by rintro rfl;omega
     have hfl:Scopy.told (Scopy.hs known dk nm) (.mk 21 xn xt [.mk 9 fnu ft fl]) (Scopy.done (Scopy.told (Scopy.hs known dk nm)) ks ((Scopy.hs known dk nm).push 0 s) j).1=(((Scopy.hs known dk nm).decl 21 ft (Scopy.done (Scopy.told (Scopy.hs known dk nm)) ks ((Scopy.hs known dk nm).push 0 s) j).1).1,.mk 21 xn xt [.mk 9 fnu ((Scopy.hs known dk nm).decl 21 ft (Scopy.done (Scopy.told (Scopy.hs known dk nm)) ks ((Scopy.hs known dk nm).push 0 s) j).1).2 fl]):=told21 _ _ _ _ _ _
     rw[hfl] at HFX HNX
     have HQ6:=hid q6
     have HP:=hid (And.intro p4 p5)
     have HP6:=hid p6
     clear q6 p4 p5 p6 hfl
     go_wp2_with fail
     refine (tell_st HSj.out 21 HQ6.out.box HP.out.1 (hng bx hbxw hbxn.1) (hnR bx hbxw hbxn.2) (by omega) (by omega) HFX.out).mono ?_
     rintro e w2 ⟨rfl,dv2,C3,hs2,b1,b2,b3,b4⟩
     have hs3:=hs2.regrow (w0:=w1) HFj.out.size (fun i hi=>HS1.out.nR i hi) HS1.out.kL HS1.out.kw
     have hF:∀i,i<w.heap.size→¬LS i→i≠bx→¬(Grow LS w1 wr i∨i=bx∨i=w.heap.size):=fun i h1 h2 h3 h=>by
      rcases h with h | h | h
      ·exact hng i h1 h2 h
      ·exact h3 h
      ·omega
     have hL:∀i,lo≤i→i<hi→i<w.heap.size∧¬LS i:=fun i h1 h2=>⟨by have:=HHH.out;omega,(HND.out.ni i h1 h2).1⟩
     obtain⟨cssx2,hrowx⟩:=HP6.out w2 _ C3 (.mk 9 fnu ((Scopy.hs known dk nm).decl 21 ft (Scopy.done (Scopy.told (Scopy.hs known dk nm)) ks ((Scopy.hs known dk nm).push 0 s) j).1).2 fl) b4 (fun i q1 q2 q3=>hF i (hL i (by omega) (by omega)).1 (hL i (by omega) (by omega)).2 (by omega)) b1 b2 b3 (HP.out.2.fr b4 fun i q1 q2=>hF i (hL i (by omega) (by omega)).1 (hL i (by omega) (by omega)).2 (by omega))
     have hkx:=hrowx.kids (lo:=a) (cap:=capx) q4 q5 q2 q3 (m:=1) rfl
     obtain⟨css2,hrow⟩:=HK6.out w2 _ C2 (.mk 21 xn xt [.mk 9 fnu ((Scopy.hs known dk nm).decl 21 ft (Scopy.done (Scopy.told (Scopy.hs known dk nm)) ks ((Scopy.hs known dk nm).push 0 s) j).1).2 fl]) b4 (fun i q1 q2 q3=>hF i (hL i (by omega) (by omega)).1 (hL i (by omega) (by omega)).2 (by omega)) (b4.box HR6.out.box (hF b hbw hbn.1 (by omega))) (Same4.refl _ _) HC4.out hkx
     have hkk:=hrow.kids (lo:=lo) (cap:=cap) h4 h5 (by rw[List.length_set];exact h2) h3 (m:=ks.length) (by rw[List.length_set,Scopy.done_len])
     have hgg2:=b4.box HGj.out (hF g hgw HND.out.ng hgbx)
     have hff:Fr w1 w2 (fun i=>LS i∨i=w.heap.size∨(lo≤i∧i<hi)):=HFj.out.step b4 fun i hi e=>by
      rcases e with e | e | e
      ·rcases e.2 with e | e
       ·exact .inl e
       ·omega
      ·right;right;omega
      ·exact .inr (.inl e)
     have HS3:=hid hs3
     have HKK:=hid hkk
     have HGG:=hid hgg2
     have HFF:=hid hff
     clear hs2 hs3 hkk hgg2 hff hrow hrowx hkx b1 b2 b3 b4
     go_wp2_with fail
     go_roundg (n - (j+1))
     case measure=>omega
     case rel=>exact⟨j+1,dv2,by omega,by omega,by go_num,by rw[HNX.out];exact HS3,HGG,by rw[HNX.out];exact HKK,HFF⟩
    ·go_wp2_with fail
     go_roundg (n - (j+1))
     case measure=>omega
     case rel=>
      have e:=told_no (known:=known) (dk:=dk) (nm:=nm) (.mk xk xn xt xl) (Scopy.done (Scopy.told (Scopy.hs known dk nm)) ks ((Scopy.hs known dk nm).push 0 s) j).1 y20 y21
      rw[e] at HNX
      exact⟨j+1,dvj,by omega,by omega,by go_num,by rw[HNX.out];exact HSj,HGj,by rw[HNX.out,Scopy.set_self (Scopy.done_at _ _ HX.out)];exact HKj,HFj⟩
  ·have hltz:¬(j:Int)<(n:Int):=by omega
   have hltd:decide ((j:Int)<(n:Int))=false:=decide_eq_false hltz
   obtain rfl:j=n:=by omega
   subst hn
   rw[Scopy.done_all] at HSj HKj
   obtain⟨q,hq⟩:∃q,Scopy.mapA (Scopy.told (Scopy.hs known dk nm)) ks ((Scopy.hs known dk nm).push 0 s)=q:=⟨_,rfl⟩
   have hql:q.2.length=ks.length:=by rw[←hq,Scopy.mapA_len]
   have HTD:Hid (q.1.top.deep=s.top.deep):=hid (by
    have:=Scopy.done_told_deep (known:=known) (dk:=dk) (nm:=nm) ks ((Scopy.hs known dk nm).push 0 s) ks.length
    rw[Scopy.done_all,hq] at this
    exact this)
   rw[hq] at HSj HKj HF1 HF2 HL1 HDL ⊢
   have HQL:=hid hql
   have HQ:=hid hq
   have gj3:wr.cell? ⟨g,o+3,none⟩=some (.slice A ks.length cap):=by rw[HGj.out.cell];exact hnd3
   clear hq hql HF2 g3 HG1 HK1
   obtain⟨n,hn⟩:∃n,ks.length=n:=⟨_,rfl⟩
   rw[hn] at hltz hltd hnd3 gj3 HQL
   go_upto_region 12 with fail
   go_loopg [55] n (fun gg s55 wx=>∃(j:Nat) (dv' uv':Value),j≤n∧n - j≤gg∧s55= .int .i64 (j:Int)∧Hid (StPre wx l B kb kv known dk nm (Grow LS w1 wx) (fun i=>RS i∨i=w.heap.size∨i=w.heap.size+1) (Scopy.done (Scopy.tr (Scopy.hs known dk nm) N) q.2 q.1 j).1 (w.heap.size+1) w.heap.size (at_ tb 0) dv' uv')∧Hid (Box wx g 24 C)∧Hid (KidsIn wx lo hi (Scopy.done (Scopy.tr (Scopy.hs known dk nm) N) q.2 q.1 j).2 (.slice A ks.length cap))∧Hid (Fr w1 wx (fun i=>LS i∨i=w.heap.size∨(lo≤i∧i<hi))))
   case atStart=>exact⟨0,dvj,uv,Nat.zero_le _,by omega,rfl,by rw[Scopy.done_zero];exact HSj,HGj,by rw[Scopy.done_zero];exact HKj,HFj⟩
   case round=>
    clear HSj HGj HKj HFj gj3 hltz hltd hgg hj
    obtain⟨j,dvj,uvj,hj,hgg,rfl,HSj,HGj,HKj,HFj⟩:=hrel
    by_cases hlt:j<n
    ·have hltz:(j:Int)<(n:Int):=by omega
     have hltd:decide ((j:Int)<(n:Int))=true:=decide_eq_true hltz
     obtain⟨x,hx⟩:∃x,q.2[j]? =some x:=⟨_,List.getElem?_eq_getElem (by rw[HQL.out];exact hlt)⟩
     obtain⟨b,cap',C2,css,h1,h2,h3,h4,h5,h6⟩:=HKj.out.row (by rw[Scopy.done_len,HQL.out];omega)
     obtain⟨e1,_,e3⟩:=slice_inj h1
     subst e1 e3
     obtain⟨a,c,vx,k1,k2,k3,k4,k5,k6⟩:=h6.kid (Scopy.done_at _ _ hx)
     have hbw:b<w.heap.size:=by have:=HHH.out;omega
     have hbn:=HND.out.ni b h4 h5
     have hgi:=HND.out.gi
     have hgw:=HND.out.node.lt
     have hzz:=HZ1.out
     have hgb:g≠b:=by rintro rfl;omega
     have hng:∀i,i<w.heap.size→¬LS i→¬Grow LS w1 wr i:=fun i h1 h2=>Grow.not h2 (by omega)
     have hnR:∀i,i<w.heap.size→¬RS i→¬(RS i∨i=w.heap.size∨i=w.heap.size+1):=fun i h1 h2 h=>by
      rcases h with h | h | h
      ·exact h2 h
      ·omega
      ·omega
     have hkb:kb≤b:=by have:=HND.out.kl;omega
     have hnx:=Scopy.done_succ (Scopy.tr (Scopy.hs known dk nm) N) q.1 hx
     have hfx:=Scopy.done_back (Scopy.tr_back (Scopy.few_back known dk nm) N) (l:=q.2) (s:=q.1) (j+1) HF1.out
     rw[hnx] at hfx
     have hL:∀i,lo≤i→i<hi→i<w.heap.size∧¬LS i∧¬RS i:=fun i h1 h2=>⟨by have:=HHH.out;omega,HND.out.ni i h1 h2⟩
     have hnd:NdPre wr kb (Grow LS w1 wr) (fun i=>RS i∨i=w.heap.size∨i=w.heap.size+1) b (j * 4) a c C2 x vx:=⟨h6.box,k4,k5,hng b hbw hbn.1,hnR b hbw hbn.2,by omega,fun i q1 q2=>⟨hng i (hL i (by omega) (by omega)).1 (hL i (by omega) (by omega)).2.1,hnR i (hL i (by omega) (by omega)).1 (hL i (by omega) (by omega)).2.2⟩,by have:=HFj.out.size;have:=HHH.out;omega,hkb,by omega⟩
     have hxm:=List.mem_of_getElem? hx
     have hxr:=(HL1.out x hxm).2
     have hxd:=deep_mem hxm
     rw[HDL.out] at hxd
     have hd0:=HD.out
     simp only[Pars.deep] at hd0
     have gj3:wr.cell? ⟨g,o+3,none⟩=some (.slice (some ⟨b,0,none⟩) n cap):=by rw[HGj.out.cell];exact hnd3
     have HNX:=hid hnx
     have HFX:=hid hfx
     have HNDX:=hid hnd
     have HK6:=hid k6
     have HX:=hid (And.intro hx hxr)
     have HR6:=hid h6
     have HTP:Hid ((Scopy.done (Scopy.tr (Scopy.hs known dk nm) N) q.2 q.1 j).1.top.deep=s.top.deep):=hid (by rw[Scopy.done_top];exact HTD.out)
     clear hnx hfx hnd k4 k5 k6 hx hxr h6 h1 hxm
     go_wp2_with fail
     refine (IH.out wr (Grow LS w1 wr) _ _ _ _ _ _ _ b (j * 4) a c C2 x vx fn lp HSj.out HNDX.out HX.out.2 (by omega) (by rw[HTP.out];omega) HFX.out).mono ?_
     rintro e w2 ⟨rfl,dv2,uv2,C3,b0,b1,b2,b3,b4,b5⟩
     have hF:∀i,i<w.heap.size→¬LS i→i≠b→(i<a∨c≤i)→¬Touch (Grow LS w1 wr) b a c i:=fun i h1 h2 h3 h4 h=>by
      rcases h with h | h | h
      ·exact hng i h1 h2 h
      ·exact h3 h
      ·omega
     have hfz:=HFj.out.size
     have hhh:=HHH.out
     have hkk0:=HND.out.kl
     have hs2:=HSj.out.next b5 b0 (fun i hi=>by
      have h0:=HSj.out.nR i hi
      rintro (e | e | e)
      ·exact h0.1 e
      ·subst e
       exact hnR i hbw hbn.2 hi
      ·exact hnR i (by omega) (hL i (by omega) (by omega)).2.2 hi) (fun i hi=>by
      rintro (e | e | e)
      ·have:=HSj.out.kL i e;omega
      ·omega
      ·omega) (Scopy.rooms_same known dk nm N x _) (Scopy.tr_tells N x _ HSj.out.tells) (Scopy.tr_more N x _)
     have hs3:=hs2.regrow (w0:=w1) hfz (fun i hi=>HS1.out.nR i hi) HS1.out.kL HS1.out.kw
     obtain⟨css2,hrow⟩:=HK6.out w2 _ C3 (Scopy.tr (Scopy.hs known dk nm) N x (Scopy.done (Scopy.tr (Scopy.hs known dk nm) N) q.2 q.1 j).1).2 b5 (fun i q1 q2 q3=>hF i (hL i (by omega) (by omega)).1 (hL i (by omega) (by omega)).2.1 (by omega) q3) b1 b2 (by rw[Scopy.tr_kind,Scopy.tr_num];exact b3) b4
     have hkk:=hrow.kids (lo:=lo) (cap:=cap) h4 h5 (by rw[List.length_set];exact h2) h3 (m:=ks.length) (by rw[List.length_set,Scopy.done_len,HQL.out,hn])
     have hgg2:=b5.box HGj.out (hF g hgw HND.out.ng hgb (by omega))
     have hff:Fr w1 w2 (fun i=>LS i∨i=w.heap.size∨(lo≤i∧i<hi)):=HFj.out.step b5 fun i hi e=>by
      rcases e with e | e | e
      ·rcases e.2 with e | e
       ·exact .inl e
       ·omega
      ·right;right;omega
      ·right;right;omega
     have HS3:=hid hs3
     have HKK:=hid hkk
     have HGG:=hid hgg2
     have HFF:=hid hff
     clear hs2 hs3 hkk hgg2 hff hrow b0 b1 b2 b3 b4 b5
     go_wp2_with fail
     go_roundg (n - (j+1))
     case measure=>omega
     case rel=>exact⟨j+1,dv2,uv2,by omega,by omega,by go_num,by rw[HNX.out];exact HS3,HGG,by rw[HNX.out];exact HKK,HFF⟩
    ·have hltz:¬(j:Int)<(n:Int):=by omega
     have hltd:decide ((j:Int)<(n:Int))=false:=decide_eq_false hltz
     obtain rfl:j=n:=by omega
     have HQL2:Hid (q.2.length=j):=HQL
     rw[←HQL2.out,Scopy.done_all] at HSj HKj
     go_wp2_with fail
     refine bodyPost_end (results_none rfl _ _ _) rfl ?_
     have hz:=HZ1.out
     have hz2:=HFj.out.size
     subst hn
     rw[HQ.out]
     exact⟨rfl,dvj,uvj,C,(HSj.out.lk.sets (fun i hi=>⟨hi.1,hi.2.imp id (fun e=>by omega)⟩) (fun i hi=>hi.1)).state rfl rfl rfl,HGj.out,Same4.refl C o,HND.out.cells,HKj.out,(Fr.below HB1.out _).step HFj.out fun i hi e=>by
      rcases e with e | e | e
      ·exact .inl e
      ·omega
      ·exact .inr (.inr e)⟩
end Go.Proofs.YtflmjbmdmoifhaaGreatDoor
namespace Go.Proofs.YtflmjbmdmoifhaaGreatDoor
open Go.Lib (hid)
open Go.RowKit
structure KSt (w wr:World) (l B kb:Nat) (kv:Value) (known:List (List UInt8)) (dk:Int) (nm:List UInt8) (LS RS X:Nat→Prop) (s:Scopy.St) (tb tm:Nat) (out dv uv:Value) (g lo hi:Nat) (C:Array Value) (ks:List Pars.Node) (A:Option Addr) (m cap:Nat):Prop where
 st:StPre wr l B kb kv known dk nm (Grow LS w wr) RS s tb tm out dv uv
 node:Box wr g 24 C
 kids:KidsIn wr lo hi ks (.slice A m cap)
 fr:Fr w wr (fun i=>Touch LS g lo hi i∨X i)
 big:ks.length=m
structure KBase (w:World) (kb:Nat) (LS RS:Nat→Prop) (g lo hi:Nat):Prop where
 ng:¬LS g
 gR:¬RS g
 gi:g<lo∨hi≤g
 gw:g<w.heap.size
 ni:∀i,lo≤i→i<hi→¬LS i∧¬RS i
 hh:hi≤w.heap.size
 kg:kb≤g
 kl:kb≤lo
 nR:∀i,RS i→¬LS i∧i<w.heap.size
 kL:∀i,LS i→kb≤i
 kw:kb≤w.heap.size
section
variable {w wr : World} {l B kb : Nat} {kv : Value} {known : List (List UInt8)} {dk : Int} {nm : List UInt8} {LS RS X : Nat → Prop} {s : Scopy.St} {tb tm : Nat} {out dv uv : Value} {g lo hi : Nat} {C : Array Value} {ks : List Pars.Node} {A : Option Addr} {m cap : Nat}
theorem kbase {o:Nat} {n:Pars.Node} {v:Value} (hst:StPre w l B kb kv known dk nm LS RS s tb tm out dv uv) (hnd:NdPre w kb LS RS g o lo hi C n v):KBase w kb LS RS g lo hi:=
 ⟨hnd.ng,hnd.gR,hnd.gi,hnd.node.lt,hnd.ni,hnd.hh,hnd.kg,hnd.kl,hst.nR,hst.kL,hst.kw⟩
theorem KSt.fit (h:KSt w wr l B kb kv known dk nm LS RS X s tb tm out dv uv g lo hi C ks A m cap):m≤9223372036854775807:=by
 have:=h.big
 rcases Nat.eq_zero_or_pos m with h0 | h0
 ·omega
 ·obtain⟨b,cap',C2,css,h1,h2,h3,_⟩:=h.kids.row (by omega)
  omega
theorem KSt.room (h:KSt w wr l B kb kv known dk nm LS RS X s tb tm out dv uv g lo hi C ks A m cap) (hm:0<m):m≤cap∧cap≤9223372036854775807:=by
 have:=h.big
 obtain⟨b,cap',C2,css,h1,h2,h3,_⟩:=h.kids.row (by omega)
 obtain⟨_,_,e⟩:=slice_inj h1
 omega
theorem KSt.look (h:KSt w wr l B kb kv known dk nm LS RS X s tb tm out dv uv g lo hi C ks A m cap) (hb:KBase w kb LS RS g lo hi) {i:Nat} {x:Pars.Node} (hx:ks[i]? =some x) (oo:Nat) (hoo:i * 4=oo):
  ∃b,A=some ⟨b,0,none⟩∧i<m∧∃a c vx C2,NdPre wr kb (Grow LS w wr) RS b oo a c C2 x vx∧
   ∀(N:Nat) (e:Ending) (w2:World),LookOut wr l B kv dk nm (Grow LS w wr) b oo a c C2 vx x (Scopy.tr (Scopy.hs known dk nm) N x s) e w2→
    e= .returned (.tuple #[])∧∃dv2 uv2,KSt w w2 l B kb kv known dk nm LS RS X (Scopy.tr (Scopy.hs known dk nm) N x s).1 tb tm out dv2 uv2 g lo hi C (ks.set i (Scopy.tr (Scopy.hs known dk nm) N x s).2) A m cap:=by
 subst hoo
 have hil:i<ks.length:=(List.getElem?_eq_some_iff.1 hx).1
 obtain⟨b,cap',C2,css,h1,h2,h3,h4,h5,h6⟩:=h.kids.row (by omega)
 obtain⟨e1,e2,e3⟩:=slice_inj h1
 subst e1 e3
 obtain⟨a,c,vx,k1,k2,k3,k4,k5,k6⟩:=h6.kid hx
 have hwz:=h.fr.size
 have hhh:=hb.hh
 have hgi:=hb.gi
 have hkl:=hb.kl
 have hng:∀i,i<w.heap.size→¬LS i→¬Grow LS w wr i:=fun i h1 h2=>Grow.not h2 h1
 have hL:∀i,lo≤i→i<hi→i<w.heap.size∧¬LS i∧¬RS i:=fun i h1 h2=>⟨by omega,hb.ni i h1 h2⟩
 refine⟨b,rfl,by omega,a,c,vx,C2,⟨h6.box,k4,k5,hng b (hL b h4 h5).1 (hL b h4 h5).2.1,(hL b h4 h5).2.2,by omega,fun i q1 q2=>⟨hng i (hL i (by omega) (by omega)).1 (hL i (by omega) (by omega)).2.1,(hL i (by omega) (by omega)).2.2⟩,by omega,by omega,by omega⟩,fun N e w2 ho=> ?_⟩
 obtain⟨he,dv2,uv2,C3,b0,b1,b2,b3,b4,b5⟩:=ho
 have hF:∀i,i<w.heap.size→¬LS i→i≠b→(i<a∨c≤i)→¬Touch (Grow LS w wr) b a c i:=fun i h1 h2 h3 h4 h=>by
  rcases h with h | h | h
  ·exact hng i h1 h2 h
  ·exact h3 h
  ·omega
 have hs2:=h.st.next b5 b0 (fun i hi=>by
  have h0:=h.st.nR i hi
  rintro (e | e | e)
  ·exact h0.1 e
  ·subst e;exact (hL i h4 h5).2.2 hi
  ·exact (hL i (by omega) (by omega)).2.2 hi) (fun i hi=>by
  rintro (e | e | e)
  ·have:=h.st.kL i e;omega
  ·omega
  ·omega) (Scopy.rooms_same known dk nm N x _) (Scopy.tr_tells N x _ h.st.tells) (Scopy.tr_more N x _)
 have hs3:=hs2.regrow (w0:=w) hwz hb.nR hb.kL hb.kw
 obtain⟨css2,hrow⟩:=k6 w2 _ C3 (Scopy.tr (Scopy.hs known dk nm) N x s).2 b5 (fun i q1 q2 q3=>hF i (hL i (by omega) (by omega)).1 (hL i (by omega) (by omega)).2.1 (by omega) q3) b1 b2 (by rw[Scopy.tr_kind,Scopy.tr_num];exact b3) b4
 refine⟨he,dv2,uv2,hs3,b5.box h.node (hF g hb.gw hb.ng (by omega) (by omega)),hrow.kids (lo:=lo) h4 h5 (by rw[List.length_set];exact h2) h3 (by rw[List.length_set];exact h.big),h.fr.step b5 fun i hi e=> ?_,by rw[List.length_set];exact h.big⟩
 rcases e with e | e | e
 ·rcases e.2 with e | e
  ·exact .inl (.inl e)
  ·omega
 ·left;right;right;omega
 ·left;right;right;omega
theorem KSt.tell (h:KSt w wr l B kb kv known dk nm LS RS X s tb tm out dv uv g lo hi C ks A m cap) (hb:KBase w kb LS RS g lo hi) (hX:X tm) {i:Nat} {x:Pars.Node} (hx:ks[i]? =some x) (tl:x.text.length≤4000000) (kd:Int) (hf:Scopy.Few ((Scopy.hs known dk nm).decl kd x.text s).1) (oo:Nat) (hoo:i * 4=oo):
  ∃b,A=some ⟨b,0,none⟩∧i<m∧Calls Tryz.prog 42 #[at_ l 0,at_ tb 0,.int .i64 kd,at_ b oo] wr fun e w2=>e= .returned (.tuple #[])∧
   ∃dv2,KSt w w2 l B kb kv known dk nm LS RS X ((Scopy.hs known dk nm).decl kd x.text s).1 tb tm out dv2 uv g lo hi C (ks.set i (.mk x.kind x.num ((Scopy.hs known dk nm).decl kd x.text s).2 x.kids)) A m cap:=by
 subst hoo
 have hil:i<ks.length:=(List.getElem?_eq_some_iff.1 hx).1
 obtain⟨b,cap',C2,css,h1,h2,h3,h4,h5,h6⟩:=h.kids.row (by omega)
 obtain⟨e1,e2,e3⟩:=slice_inj h1
 subst e1 e3
 obtain⟨a,c,vx,k1,k2,k3,k4,k5,k6⟩:=h6.kid hx
 have hwz:=h.fr.size
 have hhh:=hb.hh
 have hgi:=hb.gi
 have hkl:=hb.kl
 have hng:∀i,i<w.heap.size→¬LS i→¬Grow LS w wr i:=fun i h1 h2=>Grow.not h2 h1
 have hL:∀i,lo≤i→i<hi→i<w.heap.size∧¬LS i∧¬RS i:=fun i h1 h2=>⟨by omega,hb.ni i h1 h2⟩
 refine⟨b,rfl,by omega,(tell_st h.st kd h6.box k4 (hng b (hL b h4 h5).1 (hL b h4 h5).2.1) (hL b h4 h5).2.2 tl (by omega) hf).mono ?_⟩
 rintro e w2 ⟨rfl,dv2,C3,hs2,b1,b2,b3,b4⟩
 have htm:RS tm:=h.st.rt.2.1
 have hF:∀i,i<w.heap.size→¬LS i→¬RS i→i≠b→¬(Grow LS w wr i∨i=b∨i=tm):=fun i h1 h2 h3 h4 h=>by
  rcases h with h | h | h
  ·exact hng i h1 h2 h
  ·exact h4 h
  ·exact h3 (h ▸ htm)
 have hs3:=hs2.regrow (w0:=w) hwz hb.nR hb.kL hb.kw
 obtain⟨css2,hrow⟩:=k6 w2 _ C3 (.mk x.kind x.num ((Scopy.hs known dk nm).decl kd x.text s).2 x.kids) b4 (fun i q1 q2 q3=>hF i (hL i (by omega) (by omega)).1 (hL i (by omega) (by omega)).2.1 (hL i (by omega) (by omega)).2.2 (by omega)) b1 b2 b3 (k5.fr b4 fun i q1 q2=>hF i (hL i (by omega) (by omega)).1 (hL i (by omega) (by omega)).2.1 (hL i (by omega) (by omega)).2.2 (by omega))
 refine⟨rfl,dv2,hs3,b4.box h.node (hF g hb.gw hb.ng hb.gR (by omega)),hrow.kids (lo:=lo) h4 h5 (by rw[List.length_set];exact h2) h3 (by rw[List.length_set];exact h.big),h.fr.step b4 fun i hi e=> ?_,by rw[List.length_set];exact h.big⟩
 rcases e with e | e | e
 ·rcases e.2 with e | e
  ·exact .inl (.inl e)
  ·omega
 ·left;right;right;omega
 ·right;rw[e];exact hX
theorem KSt.named {o N:Nat} {k nu:Int} {t:List UInt8} {v:Value} (h:KSt w wr l B kb kv known dk nm LS RS X s tb tm out dv uv g lo hi C ks A m cap) (hb:KBase w kb LS RS g lo hi) (hc:Cells4 C o (nc k nu t v)) (tl:t.length≤4000000) (ih:LookLe N l B kb kv known dk nm) {i:Nat} {x:Pars.Node} (hx:ks[i]? =some x) {fn lp:Bool} (hr:Wri.right x fn lp=true) (hd:Pars.deep x≤N) (hdd:s.top.deep+Pars.deep x≤1000) (hf:Scopy.Few (inRoom known dk nm N k t x s).1) (oo:Nat) (hoo:i * 4=oo):
  ∃b,A=some ⟨b,0,none⟩∧i<m∧Calls Tryz.prog 43 #[at_ l 0,at_ tb 0,at_ g o,at_ b oo] wr fun e w2=>e= .returned (.tuple #[])∧
   ∃dv2 uv2 C',Same4 C C' o∧Cells4 C' o (nc k nu ((Scopy.hs known dk nm).decl k t ((Scopy.hs known dk nm).push 0 s)).2 v)∧KSt w w2 l B kb kv known dk nm LS RS X ((Scopy.hs known dk nm).pop (inRoom known dk nm N k t x s).1) tb tm out dv2 uv2 g lo hi C' (ks.set i (inRoom known dk nm N k t x s).2) A m cap:=by
 subst hoo
 have hil:i<ks.length:=(List.getElem?_eq_some_iff.1 hx).1
 obtain⟨b,cap',C2,css,h1,h2,h3,h4,h5,h6⟩:=h.kids.row (by omega)
 obtain⟨e1,e2,e3⟩:=slice_inj h1
 subst e1 e3
 obtain⟨a,c,vx,k1,k2,k3,k4,k5,k6⟩:=h6.kid hx
 have hwz:=h.fr.size
 have hhh:=hb.hh
 have hgi:=hb.gi
 have hkl:=hb.kl
 have hng:∀i,i<w.heap.size→¬LS i→¬Grow LS w wr i:=fun i h1 h2=>Grow.not h2 h1
 have hL:∀i,lo≤i→i<hi→i<w.heap.size∧¬LS i∧¬RS i:=fun i h1 h2=>⟨by omega,hb.ni i h1 h2⟩
 refine⟨b,rfl,by omega,(named_any ih h.st h.node hc (hng g hb.gw hb.ng) hb.gR hb.kg tl ⟨h6.box,k4,k5,hng b (hL b h4 h5).1 (hL b h4 h5).2.1,(hL b h4 h5).2.2,by omega,fun i q1 q2=>⟨hng i (hL i (by omega) (by omega)).1 (hL i (by omega) (by omega)).2.1,(hL i (by omega) (by omega)).2.2⟩,by omega,by omega,by omega⟩ (by omega) (by omega) hr hd hdd hf).mono ?_⟩
 rintro e w2 ⟨rfl,dv2,uv2,C',C3,b0,b6,b7,b8,b1,b2,b3,b4,b5⟩
 have hF:∀i,i<w.heap.size→¬LS i→i≠g→i≠b→(i<a∨c≤i)→¬(Grow LS w wr i∨i=g∨i=b∨(a≤i∧i<c)):=fun i h1 h2 h0 h3 h4 h=>by
  rcases h with h | h | h | h
  ·exact hng i h1 h2 h
  ·exact h0 h
  ·exact h3 h
  ·omega
 have hrm:((Scopy.hs known dk nm).pop (inRoom known dk nm N k t x s).1).rooms=s.rooms:=by
  show (inRoom known dk nm N k t x s).1.rooms.tail=s.rooms
  unfold inRoom
  rw[Scopy.rooms_same,(Scopy.balanced known dk nm).decl]
  rfl
 have hmore:s.decls.length≤((Scopy.hs known dk nm).pop (inRoom known dk nm N k t x s).1).decls.length:=Nat.le_trans (Scopy.decl_more (known:=known) (dk:=dk) (nm:=nm) k t ((Scopy.hs known dk nm).push 0 s)) (Scopy.tr_more N x _)
 have hs2:=h.st.next b5 b0 (fun i hi=>by
  have h0:=h.st.nR i hi
  rintro (e | e | e | e)
  ·exact h0.1 e
  ·subst e;exact hb.gR hi
  ·subst e;exact (hL i h4 h5).2.2 hi
  ·exact (hL i (by omega) (by omega)).2.2 hi) (fun i hi=>by
  have:=hb.kg
  rintro (e | e | e | e)
  ·have:=h.st.kL i e;omega
  ·omega
  ·omega
  ·omega) hrm (Scopy.tells_pop (dk:=dk) (nm:=nm) _ (Scopy.tr_tells N x _ (Scopy.tells_decl k t _ (Scopy.tells_push (dk:=dk) (nm:=nm) 0 s h.st.tells)))) hmore
 have hs3:=hs2.regrow (w0:=w) hwz hb.nR hb.kL hb.kw
 obtain⟨css2,hrow⟩:=k6 w2 _ C3 (inRoom known dk nm N k t x s).2 b5 (fun i q1 q2 q3=>hF i (hL i (by omega) (by omega)).1 (hL i (by omega) (by omega)).2.1 (by omega) (by omega) q3) b1 b2 (by unfold inRoom;rw[Scopy.tr_kind,Scopy.tr_num];exact b3) b4
 refine⟨rfl,dv2,uv2,C',b7,b8,hs3,b6,hrow.kids (lo:=lo) h4 h5 (by rw[List.length_set];exact h2) h3 (by rw[List.length_set];exact h.big),h.fr.step b5 fun i hi e=> ?_,by rw[List.length_set];exact h.big⟩
 rcases e with e | e | e | e
 ·rcases e.2 with e | e
  ·exact .inl (.inl e)
  ·omega
 ·exact .inl (.inr (.inl e))
 ·left;right;right;omega
 ·left;right;right;omega
theorem KSt.ends (h:KSt w wr l B kb kv known dk nm LS RS X s tb tm out dv uv g lo hi C ks A m cap) (hX:∀i,i<w.heap.size→¬X i) {C0:Array Value} {o:Nat} {n:Pars.Node} {v:Value} {r:Scopy.St×Pars.Node} (hv:v= .slice A m cap) (hs:Same4 C0 C o) (hc:Cells4 C o (nc n.kind n.num r.2.text v)) (hk:r.2.kids=ks) (h1:r.1.decls=s.decls) (h2:r.1.uses=s.uses) (h3:r.1.e=s.e):LookOut w l B kv dk nm LS g o lo hi C0 v n r (.returned (.tuple #[])) wr:=by
 subst hv
 exact⟨rfl,dv,uv,C,h.st.lk.state h1 h2 h3,h.node,hs,hc,by rw[hk];exact h.kids,h.fr.mono fun i hi e=>e.elim id fun e=>absurd e (hX i hi)⟩
end
end Go.Proofs.YtflmjbmdmoifhaaGreatDoor
namespace Scopy
open Pars (Node Bs)
theorem wrong_stays (known:List Bs) (dk:Int) (nm:Bs) (d:List Decl) (u:List (Bs×Int)) (e:Nat) (he:e≠0):Stays (hs known dk nm) (fun _=>True) (fun s=>s.decls=d∧s.uses=u∧s.e=e) (fun _=>True) where
 push _ _ _:=trivial
 pop _ _:=trivial
 decl _ _ _ _:=trivial
 use _ _ _:=trivial
 pushI _ _ _ i:=i
 pushP _:=trivial
 popI _ _ i:=i
 declI k t s _ i _:=by
  have h:s.e≠0:=by rw[i.2.2];exact he
  simp only[hs,if_pos h];exact i
 declP _ _ _ _:=trivial
 useI t s _ i:=by
  have h:s.e≠0:=by rw[i.2.2];exact he
  simp only[hs,if_pos h];exact i
 declS k t s _ i:=by
  have h:s.e≠0:=by rw[i.2.2];exact he
  simp only[hs,if_pos h]
 useS t s _ i:=by
  have h:s.e≠0:=by rw[i.2.2];exact he
  simp only[hs,if_pos h]
theorem tr_wrong (known:List Bs) (dk:Int) (nm:Bs) (N:Nat) (n:Node) (s:St) (he:s.e≠0):(tr (hs known dk nm) N n s).2=n∧(tr (hs known dk nm) N n s).1.decls=s.decls∧(tr (hs known dk nm) N n s).1.uses=s.uses∧(tr (hs known dk nm) N n s).1.e=s.e:=
 ⟨tr_same (wrong_stays known dk nm s.decls s.uses s.e he) N n s trivial ⟨rfl,rfl,rfl⟩,tr_inv (wrong_stays known dk nm s.decls s.uses s.e he).toKeeps N n s trivial ⟨rfl,rfl,rfl⟩⟩
end Scopy
namespace Go.Proofs.YtflmjbmdmoifhaaGreatDoor
open Go.Lib (hid)
open Go.RowKit
section
variable {N l B kb : Nat} {kv : Value} {known : List (List UInt8)} {dk : Int} {nm : List UInt8} {w : World} {LS RS : Nat → Prop} {s : Scopy.St} {tb tm : Nat} {out dv uv : Value} {g o lo hi : Nat} {C : Array Value} {n : Pars.Node} {v : Value} {fn lp : Bool}
theorem look_wrong (hst:StPre w l B kb kv known dk nm LS RS s tb tm out dv uv) (hnd:NdPre w kb LS RS g o lo hi C n v) (he:s.e≠0):Calls Tryz.prog 27 #[at_ l 0,at_ tb 0,at_ g o] w (LookOut w l B kv dk nm LS g o lo hi C v n (Scopy.tr (Scopy.hs known dk nm) N n s)):=by
 have l3:=hst.lk.box.cell 3
 simp[lkc] at l3
 have hne:(((s.e:Nat):Int) != 0)=true:=by simp[he]
 obtain⟨h1,h2,h3,h4⟩:=Scopy.tr_wrong known dk nm N n s he
 have HO:Hid (LookOut w l B kv dk nm LS g o lo hi C v n (Scopy.tr (Scopy.hs known dk nm) N n s) (.returned (.tuple #[])) w):=⟨rfl,dv,uv,C,(hst.lk.sets (fun i hi=>⟨hst.lk.lt i hi,.inl hi⟩) (fun i hi=>hi.1)).state h2 h3 h4,hnd.node,Same4.refl C o,by rw[h1];exact hnd.cells,by rw[h1];exact hnd.kids,Fr.refl w _⟩
 clear h1 h2 h3 h4 hst hnd
 go_enter Tryz.func27,Tryz.ntmps27
 go_wp2_with fail
 refine bodyPost_ret (results_none rfl _ _ _) rfl ?_
 exact HO.out
set_option maxRecDepth 100000 in
set_option maxHeartbeats 4000000 in
theorem look_use {nu:Int} {t:List UInt8} {ks:List Pars.Node} (hst:StPre w l B kb kv known dk nm LS RS s tb tm out dv uv) (hnd:NdPre w kb LS RS g o lo hi C (.mk 5 nu t ks) v) (he:s.e=0) (hr:Wri.right (.mk 5 nu t ks) fn lp=true) (hf:Scopy.Few (Scopy.tr (Scopy.hs known dk nm) (N+1) (.mk 5 nu t ks) s).1):
  Calls Tryz.prog 27 #[at_ l 0,at_ tb 0,at_ g o] w (LookOut w l B kv dk nm LS g o lo hi C v (.mk 5 nu t ks) (Scopy.tr (Scopy.hs known dk nm) (N+1) (.mk 5 nu t ks) s)):=by
 rw[Scopy.tr5] at hf ⊢
 have hf0:=(Scopy.few_back known dk nm).use _ _ hf
 have l3:=hst.lk.box.cell 3
 simp[lkc,he] at l3
 have n0:w.cell? ⟨g,o,none⟩=some (.int .i64 5):=by rw[hnd.node.cell];exact hnd.cells 0 (by omega)
 obtain⟨rfl,hnm⟩:ks=[]∧Wri.name t=true:=by
  have h:=Wri.rt_of _ _ _ hr
  cases h with
  | var _ _ _ h=>exact⟨rfl,h⟩
 have HU:=hid (use_any hst.lk ⟨hnd.node,hnd.cells,hst.rooms hf0,hnd.ng,fun i hi=>(hst.nR i hi).1,hnd.gR,by have:=Scopy.name_len hnm;show t.length≤4000000;omega⟩ (top_cons hst.ne) he hst.tells hst.big hf0.2 hf0.1 hst.kn hst.kL)
 have HK:=hid hnd.kids
 have HNI:=hid hnd.ni
 have HGI:=hid hnd.gi
 clear hst hnd hf hr
 go_enter Tryz.func27,Tryz.ntmps27
 go_wp2_with fail
 refine HU.out.mono ?_
 rintro e w2 ⟨rfl,dv2,uv2,C2,h1,h2,h3,h4,h5⟩
 go_wp2_with fail
 refine bodyPost_end (results_none rfl _ _ _) rfl ?_
 refine⟨rfl,dv2,uv2,C2,h1,h2,h3,h4,HK.out.fr h5 fun i q1 q2 e=> ?_,h5.mono fun i _ e=>e.elim .inl fun e=> .inr (.inl e)⟩
 have:=HGI.out
 rcases e with e | e
 ·exact (HNI.out i q1 q2).1 e
 ·omega
theorem look_block {nu:Int} {t:List UInt8} {ks:List Pars.Node} (hnm:0≤dk→Wri.name nm=true) (ih:LookLe N l B kb kv known dk nm) (hst:StPre w l B kb kv known dk nm LS RS s tb tm out dv uv) (hnd:NdPre w kb LS RS g o lo hi C (.mk 30 nu t ks) v) (he:s.e=0) (hr:Wri.right (.mk 30 nu t ks) fn lp=true) (hd:Pars.deep (.mk 30 nu t ks)≤N+1) (hdd:s.top.deep+Pars.deep (.mk 30 nu t ks)≤1000) (hf:Scopy.Few (Scopy.tr (Scopy.hs known dk nm) (N+1) (.mk 30 nu t ks) s).1):
  Calls Tryz.prog 27 #[at_ l 0,at_ tb 0,at_ g o] w (LookOut w l B kv dk nm LS g o lo hi C v (.mk 30 nu t ks) (Scopy.tr (Scopy.hs known dk nm) (N+1) (.mk 30 nu t ks) s)):=by
 have l3:=hst.lk.box.cell 3
 simp[lkc,he] at l3
 have n0:w.cell? ⟨g,o,none⟩=some (.int .i64 30):=by rw[hnd.node.cell];exact hnd.cells 0 (by omega)
 have HU:=hid (block_any hnm ih hst hnd hr hd hdd hf)
 clear hst hnd hr hd hdd hf
 go_enter Tryz.func27,Tryz.ntmps27
 go_wp2_with fail
 refine HU.out.mono ?_
 rintro e w2 ⟨rfl,h1⟩
 go_wp2_with fail
 refine bodyPost_end (results_none rfl _ _ _) rfl ?_
 exact⟨rfl,h1⟩
end
end Go.Proofs.YtflmjbmdmoifhaaGreatDoor
namespace Go.Proofs.YtflmjbmdmoifhaaGreatDoor
open Go.Lib (hid)
open Go.RowKit
section
variable {N l B kb : Nat} {kv : Value} {known : List (List UInt8)} {dk : Int} {nm : List UInt8} {w : World} {LS RS : Nat → Prop} {s : Scopy.St} {tb tm : Nat} {out dv uv : Value} {g o lo hi : Nat} {C : Array Value} {n : Pars.Node} {v : Value} {fn lp : Bool}
def NoX:Nat→Prop:=fun _=>False
theorem kst0 {A:Option Addr} {cap:Nat} (hst:StPre w l B kb kv known dk nm LS RS s tb tm out dv uv) (hnd:NdPre w kb LS RS g o lo hi C n (.slice A n.kids.length cap)):KSt w w l B kb kv known dk nm LS RS NoX s tb tm out dv uv g lo hi C n.kids A n.kids.length cap:=
 ⟨hst.grow0,hnd.node,hnd.kids,Fr.refl w _,rfl⟩
theorem tr_plain {k nu:Int} (t:List UInt8) (ks:List Pars.Node) (s:Scopy.St) (h5:k≠5) (h30:k≠30) (h9:k≠9) (h24:k≠24) (h29:¬(k=29∧nu≠2)) (hr:Wri.right (.mk k nu t ks) fn lp=true):Scopy.tr (Scopy.hs known dk nm) (N+1) (.mk k nu t ks) s=((Scopy.mapA (Scopy.tr (Scopy.hs known dk nm) N) ks s).1,.mk k nu t (Scopy.mapA (Scopy.tr (Scopy.hs known dk nm) N) ks s).2):=by
 by_cases h21:k=21
 ·subst h21
  rw[Scopy.tr21,if_pos]
  have h:=Wri.rt_of _ _ _ hr
  cases h with
  | def_ _ _ f hk _ _=>simp[Scopy.fn1,hk]
 ·exact Scopy.trd _ _ _ _ h5 h30 h9 h21 h24 h29 t ks s
theorem rights_each:∀(l:List Pars.Node) (gg:List UInt8) (k:Int) (fn lp:Bool) (i:Nat),Wri.rights gg k fn lp i l=true→∀x∈l,∃fn2 lp2,Wri.right x fn2 lp2=true
 | [],_,_,_,_,_,_,x,hx=>by cases hx
 | a :: l,gg,k,fn,lp,i,h,x,hx=>by
  rw[Wri.rights_cons] at h
  simp only[Bool.and_eq_true] at h
  rcases List.mem_cons.1 hx with rfl | hx
  ·exact⟨_,_,h.2.1⟩
  ·exact rights_each l gg k fn lp (i+1) h.2.2 x hx
theorem right_kids {k nu:Int} {t:List UInt8} {ks:List Pars.Node} (hr:Wri.right (.mk k nu t ks) fn lp=true):∀x∈ks,∃fn2 lp2,Wri.right x fn2 lp2=true:=by
 rw[Wri.right_eq] at hr
 simp only[Bool.and_eq_true] at hr
 exact rights_each ks _ _ _ _ _ hr.2.2.2.2.2
set_option maxRecDepth 100000 in
set_option maxHeartbeats 8000000 in
theorem look_kids {k nu:Int} {t:List UInt8} {ks:List Pars.Node} (ih:LookLe N l B kb kv known dk nm) (hst:StPre w l B kb kv known dk nm LS RS s tb tm out dv uv) (hnd:NdPre w kb LS RS g o lo hi C (.mk k nu t ks) v) (he:s.e=0) (hr:Wri.right (.mk k nu t ks) fn lp=true) (hd:Pars.deep (.mk k nu t ks)≤N+1) (hdd:s.top.deep+Pars.deep (.mk k nu t ks)≤1000) (hf:Scopy.Few (Scopy.tr (Scopy.hs known dk nm) (N+1) (.mk k nu t ks) s).1)
  (h5:k≠5) (h30:k≠30) (h9:k≠9) (h24:k≠24) (h29:k≠29):
  Calls Tryz.prog 27 #[at_ l 0,at_ tb 0,at_ g o] w (LookOut w l B kv dk nm LS g o lo hi C v (.mk k nu t ks) (Scopy.tr (Scopy.hs known dk nm) (N+1) (.mk k nu t ks) s)):=by
 rw[tr_plain t ks s h5 h30 h9 h24 (fun h=>h29 h.1) hr] at hf ⊢
 have l3:=hst.lk.box.cell 3
 simp[lkc,he] at l3
 have n0:w.cell? ⟨g,o,none⟩=some (.int .i64 k):=by rw[hnd.node.cell];exact hnd.cells 0 (by omega)
 obtain⟨A,cap,hv⟩:=KidsIn.slice hnd.kids
 have hv:v= .slice A ks.length cap:=hv
 subst hv
 have HC3:=hid (hnd.cells 3 (by omega))
 have HB:=hid (kbase hst hnd)
 have HK0:Hid (KSt w w l B kb kv known dk nm LS RS NoX s tb tm out dv uv g lo hi C ks A ks.length cap):=hid (kst0 hst hnd)
 have HC:=hid hnd.cells
 have HR:=hid (right_kids hr)
 simp only[Pars.deep] at hd hdd
 have HD:=hid (And.intro hd hdd)
 have HF:=hid hf
 have IH:=hid ih
 obtain⟨m,hm⟩:∃m,ks.length=m:=⟨_,rfl⟩
 have HM:=hid hm
 have g3:w.cell? ⟨g,o+3,none⟩=some (.slice A m cap):=by rw[hnd.node.cell, ←hm];exact HC3.out
 have e5:(k==5)=false:=by simp[h5]
 have e30:(k==30)=false:=by simp[h30]
 have e9:(k==9)=false:=by simp[h9]
 have e24:(k==24)=false:=by simp[h24]
 have e29:(k==29)=false:=by simp[h29]
 clear hst hnd hr hd hdd hf ih
 go_enter Tryz.func27,Tryz.ntmps27
 go_upto_region 3 with fail
 rw[hm] at HK0
 have hm63:=HK0.out.fit
 go_loopg [24] m (fun gg s24 wr=>∃(j:Nat) (dv' uv':Value),j≤m∧m - j≤gg∧s24= .int .i64 (j:Int)∧Hid (KSt w wr l B kb kv known dk nm LS RS NoX (Scopy.done (Scopy.tr (Scopy.hs known dk nm) N) ks s j).1 tb tm out dv' uv' g lo hi C (Scopy.done (Scopy.tr (Scopy.hs known dk nm) N) ks s j).2 A m cap))
 case atStart=>exact⟨0,dv,uv,Nat.zero_le _,by omega,rfl,by rw[Scopy.done_zero];exact HK0⟩
 case round=>
  clear HK0 g3
  obtain⟨j,dvj,uvj,hj,hgg,rfl,HKj⟩:=hrel
  by_cases hlt:j<m
  ·have hltz:(j:Int)<(m:Int):=by omega
   have hltd:decide ((j:Int)<(m:Int))=true:=decide_eq_true hltz
   obtain⟨x,hx⟩:∃x,ks[j]? =some x:=⟨_,List.getElem?_eq_getElem (by rw[hm];exact hlt)⟩
   obtain⟨b,hA,_,a,c,vx,C2,hnd,hnext⟩:=HKj.out.look HB.out (Scopy.done_at _ _ hx) (j * 4) rfl
   subst hA
   have hnx:=Scopy.done_succ (Scopy.tr (Scopy.hs known dk nm) N) s hx
   have hfx:=Scopy.done_back (Scopy.tr_back (Scopy.few_back known dk nm) N) (l:=ks) (s:=s) (j+1) HF.out
   rw[hnx] at hfx
   have hxm:=List.mem_of_getElem? hx
   obtain⟨fn2,lp2,hxr⟩:=HR.out x hxm
   have hxd:=deep_mem hxm
   have hd0:=HD.out
   have htp:(Scopy.done (Scopy.tr (Scopy.hs known dk nm) N) ks s j).1.top=s.top:=Scopy.done_top _ _ _ _
   have gj3:wr.cell? ⟨g,o+3,none⟩=some (.slice (some ⟨b,0,none⟩) m cap):=by rw[HKj.out.node.cell, ←hm];exact HC3.out
   have HCALL:=hid (IH.out wr _ _ _ _ _ _ _ _ b (j * 4) a c C2 x vx fn2 lp2 HKj.out.st hnd hxr (by omega) (by rw[htp];omega) hfx)
   have HNX:=hid hnx
   have HNE:=hid hnext
   clear hnx hfx hnd hnext hx hxm hxr hxd hd0 htp
   go_wp2_with fail
   refine HCALL.out.mono ?_
   rintro e w2 ho
   obtain⟨rfl,dv2,uv2,hk2⟩:=HNE.out N e w2 ho
   have HK2:=hid hk2
   clear hk2 ho
   go_wp2_with fail
   go_roundg (m - (j+1))
   case measure=>omega
   case rel=>exact⟨j+1,dv2,uv2,by omega,by omega,by go_num,by rw[HNX.out];exact HK2⟩
  ·have hltz:¬(j:Int)<(m:Int):=by omega
   have hltd:decide ((j:Int)<(m:Int))=false:=decide_eq_false hltz
   obtain rfl:j=m:=by omega
   subst hm
   rw[Scopy.done_all] at HKj
   go_wp2_with fail
   refine bodyPost_end (results_none rfl _ _ _) rfl ?_
   exact HKj.out.ends (fun _ _ h=>h) rfl (Same4.refl C o) HC.out rfl rfl rfl rfl
set_option maxRecDepth 100000 in
set_option maxHeartbeats 8000000 in
theorem look_for {nu:Int} {t:List UInt8} {ks:List Pars.Node} (ih:LookLe N l B kb kv known dk nm) (hst:StPre w l B kb kv known dk nm LS RS s tb tm out dv uv) (hnd:NdPre w kb LS RS g o lo hi C (.mk 24 nu t ks) v) (he:s.e=0) (hr:Wri.right (.mk 24 nu t ks) fn lp=true) (hd:Pars.deep (.mk 24 nu t ks)≤N+1) (hdd:s.top.deep+Pars.deep (.mk 24 nu t ks)≤1000) (hf:Scopy.Few (Scopy.tr (Scopy.hs known dk nm) (N+1) (.mk 24 nu t ks) s).1):
  Calls Tryz.prog 27 #[at_ l 0,at_ tb 0,at_ g o] w (LookOut w l B kv dk nm LS g o lo hi C v (.mk 24 nu t ks) (Scopy.tr (Scopy.hs known dk nm) (N+1) (.mk 24 nu t ks) s)):=by
 obtain⟨x,y,rfl,hnm,hx,hy⟩:∃x y,ks=[x,y]∧Wri.name t=true∧Wri.right x fn lp=true∧Wri.right y fn true=true:=by
  have h:=Wri.rt_of _ _ _ hr
  cases h with
  | for_ _ _ _ c b hn _ hc _ hb=>exact⟨c,b,rfl,hn,Wri.of_rt hc,Wri.of_rt hb⟩
 have htr:Scopy.tr (Scopy.hs known dk nm) (N+1) (.mk 24 nu t [x,y]) s=((Scopy.hs known dk nm).pop (inRoom known dk nm N 24 t y (Scopy.tr (Scopy.hs known dk nm) N x s).1).1,.mk 24 nu ((Scopy.hs known dk nm).decl 24 t ((Scopy.hs known dk nm).push 0 (Scopy.tr (Scopy.hs known dk nm) N x s).1)).2 [(Scopy.tr (Scopy.hs known dk nm) N x s).2,(inRoom known dk nm N 24 t y (Scopy.tr (Scopy.hs known dk nm) N x s).1).2]):=by
  rw[Scopy.tr24];rfl
 rw[htr] at hf ⊢
 have hf1:Scopy.Few (inRoom known dk nm N 24 t y (Scopy.tr (Scopy.hs known dk nm) N x s).1).1:=(Scopy.few_back known dk nm).pop _ hf
 have hf2:Scopy.Few (Scopy.tr (Scopy.hs known dk nm) N x s).1:=(Scopy.few_back known dk nm).push 0 _ ((Scopy.few_back known dk nm).decl 24 t _ (Scopy.tr_back (Scopy.few_back known dk nm) N y _ hf1))
 have l3:=hst.lk.box.cell 3
 simp[lkc,he] at l3
 have n0:w.cell? ⟨g,o,none⟩=some (.int .i64 24):=by rw[hnd.node.cell];exact hnd.cells 0 (by omega)
 obtain⟨A,cap,hv⟩:=KidsIn.slice hnd.kids
 have hv:v= .slice A 2 cap:=hv
 subst hv
 have HC3:=hid (hnd.cells 3 (by omega))
 have HB:=hid (kbase hst hnd)
 have HK0:Hid (KSt w w l B kb kv known dk nm LS RS NoX s tb tm out dv uv g lo hi C [x,y] A 2 cap):=hid (kst0 hst hnd)
 have HC:=hid hnd.cells
 have hd0:=hd
 have hdd0:=hdd
 simp only[Pars.deep,Pars.deeps] at hd0 hdd0
 have HD:Hid (Pars.deep x≤N∧Pars.deep y≤N∧s.top.deep+Pars.deep x≤1000∧s.top.deep+Pars.deep y≤1000):=hid (by omega)
 obtain⟨b,hA,_,a,c,vx,C2,hn1,hnext⟩:=HK0.out.look (x:=x) (i:=0) HB.out rfl 0 rfl
 subst hA
 have g3:w.cell? ⟨g,o+3,none⟩=some (.slice (some ⟨b,0,none⟩) 2 cap):=by rw[hnd.node.cell];exact HC3.out
 have HCALL:=hid (ih w _ _ _ _ _ _ _ _ b 0 a c C2 x vx fn lp HK0.out.st hn1 hx HD.out.1 HD.out.2.2.1 hf2)
 have HNE:=hid hnext
 have IH:=hid ih
 have HY:=hid (And.intro hy hf1)
 have HTL:=hid (Scopy.name_len hnm)
 clear hst hnd hr hd hdd hd0 hdd0 hf ih hx hy hn1 hnext hf1 hf2 htr hnm
 go_enter Tryz.func27,Tryz.ntmps27
 go_wp2_with fail
 refine HCALL.out.mono ?_
 rintro e w2 ho
 obtain⟨rfl,dv2,uv2,hk2⟩:=HNE.out N e w2 ho
 have HK2:=hid hk2
 have htp:(Scopy.tr (Scopy.hs known dk nm) N x s).1.top=s.top:=by unfold Scopy.St.top;rw[Scopy.rooms_same]
 obtain⟨b2,hA2,_,hcall⟩:=hk2.named (x:=y) (i:=1) (t:=t) (N:=N) HB.out HC.out (by have:=HTL.out;omega) IH.out rfl HY.out.1 HD.out.2.1 (by rw[htp];exact HD.out.2.2.2) HY.out.2 4 rfl
 have hA2:=addr_inj hA2
 subst hA2
 have HCALL2:=hid hcall
 have gj3:w2.cell? ⟨g,o+3,none⟩=some (.slice (some ⟨b,0,none⟩) 2 cap):=by rw[HK2.out.node.cell];exact HC3.out
 clear hk2 ho hcall htp g3
 go_wp2_with fail
 refine HCALL2.out.mono ?_
 rintro e w3 ⟨rfl,dv3,uv3,C3,q1,q2,q3⟩
 go_wp2_with fail
 refine bodyPost_end (results_none rfl _ _ _) rfl ?_
 exact q3.ends (fun _ _ h=>h) rfl q1 q2 rfl rfl rfl rfl
end
end Go.Proofs.YtflmjbmdmoifhaaGreatDoor
namespace Go.Proofs.YtflmjbmdmoifhaaGreatDoor
open Go.Lib (hid)
open Go.RowKit
section
variable {N l B kb : Nat} {kv : Value} {known : List (List UInt8)} {dk : Int} {nm : List UInt8} {w : World} {LS RS : Nat → Prop} {s : Scopy.St} {tb tm : Nat} {out dv uv : Value} {g o lo hi : Nat} {C : Array Value} {n : Pars.Node} {v : Value} {fn lp : Bool}
set_option maxRecDepth 100000 in
set_option maxHeartbeats 8000000 in
theorem look_try2 {t:List UInt8} {ks:List Pars.Node} (ih:LookLe N l B kb kv known dk nm) (hst:StPre w l B kb kv known dk nm LS RS s tb tm out dv uv) (hnd:NdPre w kb LS RS g o lo hi C (.mk 29 2 t ks) v) (he:s.e=0) (hr:Wri.right (.mk 29 2 t ks) fn lp=true) (hd:Pars.deep (.mk 29 2 t ks)≤N+1) (hdd:s.top.deep+Pars.deep (.mk 29 2 t ks)≤1000) (hf:Scopy.Few (Scopy.tr (Scopy.hs known dk nm) (N+1) (.mk 29 2 t ks) s).1):
  Calls Tryz.prog 27 #[at_ l 0,at_ tb 0,at_ g o] w (LookOut w l B kv dk nm LS g o lo hi C v (.mk 29 2 t ks) (Scopy.tr (Scopy.hs known dk nm) (N+1) (.mk 29 2 t ks) s)):=by
 rw[tr_plain t ks s (by decide) (by decide) (by decide) (by decide) (fun h=>h.2 rfl) hr] at hf ⊢
 have hks:2≤ks.length:=by
  have h:=Wri.rt_of _ _ _ hr
  cases h
  simp
 have l3:=hst.lk.box.cell 3
 simp[lkc,he] at l3
 have n0:w.cell? ⟨g,o,none⟩=some (.int .i64 29):=by rw[hnd.node.cell];exact hnd.cells 0 (by omega)
 obtain⟨A,cap,hv⟩:=KidsIn.slice hnd.kids
 have hv:v= .slice A ks.length cap:=hv
 subst hv
 have HC3:=hid (hnd.cells 3 (by omega))
 have HC1:=hid (hnd.cells 1 (by omega))
 have HB:=hid (kbase hst hnd)
 have HK0:Hid (KSt w w l B kb kv known dk nm LS RS NoX s tb tm out dv uv g lo hi C ks A ks.length cap):=hid (kst0 hst hnd)
 have HC:=hid hnd.cells
 have HR:=hid (right_kids hr)
 simp only[Pars.deep] at hd hdd
 have HD:=hid (And.intro hd hdd)
 have HF:=hid hf
 have IH:=hid ih
 obtain⟨m,hm⟩:∃m,ks.length=m:=⟨_,rfl⟩
 have HM:=hid hm
 rw[hm] at HK0 hks
 have hm63:=HK0.out.fit
 obtain⟨hmc,hc63⟩:=HK0.out.room (by omega)
 obtain⟨p,hp⟩:∃p,m=p+1:=⟨m - 1,by omega⟩
 subst hp
 have hmcz:(p:Int)+1≤(cap:Int):=by omega
 have HSTEP:Hid (∀(wr:World) (j:Nat) (dv' uv':Value),j<p+1→KSt w wr l B kb kv known dk nm LS RS NoX (Scopy.done (Scopy.tr (Scopy.hs known dk nm) N) ks s j).1 tb tm out dv' uv' g lo hi C (Scopy.done (Scopy.tr (Scopy.hs known dk nm) N) ks s j).2 A (p+1) cap→
   ∃b,A=some ⟨b,0,none⟩∧∀oo,j * 4=oo→Calls Tryz.prog 27 #[at_ l 0,at_ tb 0,at_ b oo] wr fun e w2=>e= .returned (.tuple #[])∧∃dv2 uv2,KSt w w2 l B kb kv known dk nm LS RS NoX (Scopy.done (Scopy.tr (Scopy.hs known dk nm) N) ks s (j+1)).1 tb tm out dv2 uv2 g lo hi C (Scopy.done (Scopy.tr (Scopy.hs known dk nm) N) ks s (j+1)).2 A (p+1) cap):=hid (fun wr j dv' uv' hlt hk=>by
  obtain⟨x,hx⟩:∃x,ks[j]? =some x:=⟨_,List.getElem?_eq_getElem (by rw[hm];exact hlt)⟩
  obtain⟨b,hA,_⟩:=hk.look HB.out (Scopy.done_at _ _ hx) (j * 4) rfl
  refine⟨b,hA,fun oo hoo=> ?_⟩
  obtain⟨b2,hA2,_,a,c,vx,C2,hnd,hnext⟩:=hk.look HB.out (Scopy.done_at _ _ hx) oo hoo
  rw[hA] at hA2
  have hA2:=addr_inj hA2
  subst hA2
  have hnx:=Scopy.done_succ (Scopy.tr (Scopy.hs known dk nm) N) s hx
  have hfx:=Scopy.done_back (Scopy.tr_back (Scopy.few_back known dk nm) N) (l:=ks) (s:=s) (j+1) HF.out
  rw[hnx] at hfx ⊢
  obtain⟨fn2,lp2,hxr⟩:=HR.out x (List.mem_of_getElem? hx)
  have hxd:=deep_mem (List.mem_of_getElem? hx)
  have hd0:=HD.out
  have htp:(Scopy.done (Scopy.tr (Scopy.hs known dk nm) N) ks s j).1.top=s.top:=Scopy.done_top _ _ _ _
  exact (IH.out wr _ _ _ _ _ _ _ _ b oo a c C2 x vx fn2 lp2 hk.st hnd hxr (by omega) (by rw[htp];omega) hfx).mono fun e w2 ho=>hnext N e w2 ho)
 have HK0:Hid (KSt w w l B kb kv known dk nm LS RS NoX (Scopy.done (Scopy.tr (Scopy.hs known dk nm) N) ks s 0).1 tb tm out dv uv g lo hi C (Scopy.done (Scopy.tr (Scopy.hs known dk nm) N) ks s 0).2 A (p+1) cap):=by rw[Scopy.done_zero];exact HK0
 obtain⟨b,hA,hcall⟩:=HSTEP.out w 0 dv uv (by omega) HK0.out
 subst hA
 have HCALL:=hid (hcall 0 rfl)
 have g3:w.cell? ⟨g,o+3,none⟩=some (.slice (some ⟨b,0,none⟩) (p+1) cap):=by rw[hnd.node.cell, ←hm];exact HC3.out
 have hmz:(0:Int)<(p:Int)+1:=by omega
 clear hst hnd hr hd hdd hf ih hcall
 go_enter Tryz.func27,Tryz.ntmps27
 go_wp2_with fail
 refine HCALL.out.mono ?_
 rintro e w2 ⟨rfl,dv2,uv2,hk2⟩
 have HK2:=hid hk2
 have gj3:w2.cell? ⟨g,o+3,none⟩=some (.slice (some ⟨b,0,none⟩) (p+1) cap):=by rw[HK2.out.node.cell, ←hm];exact HC3.out
 have hmz1:(1:Int)≤(p:Int)+1:=by omega
 clear hk2 g3
 go_upto_region 26 with fail
 go_loopg [128] p (fun gg s128 wr=>∃(j:Nat) (dv' uv':Value),j≤p∧p - j≤gg∧s128= .int .i64 (j:Int)∧Hid (KSt w wr l B kb kv known dk nm LS RS NoX (Scopy.done (Scopy.tr (Scopy.hs known dk nm) N) ks s (j+1)).1 tb tm out dv' uv' g lo hi C (Scopy.done (Scopy.tr (Scopy.hs known dk nm) N) ks s (j+1)).2 (some ⟨b,0,none⟩) (p+1) cap))
 case atStart=>exact⟨0,dv2,uv2,Nat.zero_le _,by omega,rfl,HK2⟩
 case round=>
  clear HK2 gj3 hmz1 hmz
  obtain⟨j,dvj,uvj,hj,hgg,rfl,HKj⟩:=hrel
  by_cases hlt:j<p
  ·have hltz:(j:Int)<(p:Int):=by omega
   have hltd:decide ((j:Int)<(p:Int))=true:=decide_eq_true hltz
   have hlt2:(j:Int)+1<(p:Int)+1:=by omega
   have gj3:wr.cell? ⟨g,o+3,none⟩=some (.slice (some ⟨b,0,none⟩) (p+1) cap):=by rw[HKj.out.node.cell, ←hm];exact HC3.out
   have gj1:wr.cell? ⟨g,o+1,none⟩=some (.int .i64 2):=by rw[HKj.out.node.cell];exact HC1.out
   have wj:IntKind.i64.wrap ((j:Int)+1)=(j:Int)+1:=by rw[IntKind.wrap_i64];omega
   obtain⟨b2,hA,hcall⟩:=HSTEP.out wr (j+1) dvj uvj (by omega) HKj.out
   have hA:=addr_inj hA
   subst hA
   have HCALL:=hid (hcall ((j+1) * 4) rfl)
   clear hcall
   by_cases hj0:j=0
   ·subst hj0
    go_wp2_with fail
    refine HCALL.out.mono ?_
    rintro e w3 ⟨rfl,dv3,uv3,hk3⟩
    have HK3:=hid hk3
    clear hk3
    go_wp2_with fail
    go_roundg (p - 1)
    case measure=>omega
    case rel=>exact⟨1,dv3,uv3,by omega,by omega,by go_num,HK3⟩
   ·have hjz:((j:Int)==0)=false:=by simp;omega
    have hjd:decide ((j:Int)=0)=false:=decide_eq_false (by omega)
    go_wp2_with fail
    refine HCALL.out.mono ?_
    rintro e w3 ⟨rfl,dv3,uv3,hk3⟩
    have HK3:=hid hk3
    clear hk3
    go_wp2_with fail
    go_roundg (p - (j+1))
    case measure=>omega
    case rel=>exact⟨j+1,dv3,uv3,by omega,by omega,by go_num,HK3⟩
  ·have hltz:¬(j:Int)<(p:Int):=by omega
   have hltd:decide ((j:Int)<(p:Int))=false:=decide_eq_false hltz
   obtain rfl:j=p:=by omega
   rw[←hm,Scopy.done_all] at HKj
   go_wp2_with fail
   refine bodyPost_end (results_none rfl _ _ _) rfl ?_
   exact HKj.out.ends (fun _ _ h=>h) (by rw[hm]) (Same4.refl C o) (by rw[←hm];exact HC.out) rfl rfl rfl rfl
def tryAt (known:List (List UInt8)) (dk:Int) (nm:List UInt8) (N:Nat) (t:List UInt8) (x y:Pars.Node) (zs:List Pars.Node) (s:Scopy.St):Nat→Scopy.St×List Pars.Node
 | 0=>((Scopy.tr (Scopy.hs known dk nm) N x s).1,(Scopy.tr (Scopy.hs known dk nm) N x s).2 :: y :: zs)
 | j+1=>((Scopy.done (Scopy.tr (Scopy.hs known dk nm) N) zs ((Scopy.hs known dk nm).pop (inRoom known dk nm N 29 t y (Scopy.tr (Scopy.hs known dk nm) N x s).1).1) j).1,
   (Scopy.tr (Scopy.hs known dk nm) N x s).2 :: (inRoom known dk nm N 29 t y (Scopy.tr (Scopy.hs known dk nm) N x s).1).2 :: (Scopy.done (Scopy.tr (Scopy.hs known dk nm) N) zs ((Scopy.hs known dk nm).pop (inRoom known dk nm N 29 t y (Scopy.tr (Scopy.hs known dk nm) N x s).1).1) j).2)
set_option maxRecDepth 100000 in
set_option maxHeartbeats 8000000 in
theorem look_try {nu:Int} {t:List UInt8} {ks:List Pars.Node} (hnu:nu≠2) (ih:LookLe N l B kb kv known dk nm) (hst:StPre w l B kb kv known dk nm LS RS s tb tm out dv uv) (hnd:NdPre w kb LS RS g o lo hi C (.mk 29 nu t ks) v) (he:s.e=0) (hr:Wri.right (.mk 29 nu t ks) fn lp=true) (hd:Pars.deep (.mk 29 nu t ks)≤N+1) (hdd:s.top.deep+Pars.deep (.mk 29 nu t ks)≤1000) (hf:Scopy.Few (Scopy.tr (Scopy.hs known dk nm) (N+1) (.mk 29 nu t ks) s).1):
  Calls Tryz.prog 27 #[at_ l 0,at_ tb 0,at_ g o] w (LookOut w l B kv dk nm LS g o lo hi C v (.mk 29 nu t ks) (Scopy.tr (Scopy.hs known dk nm) (N+1) (.mk 29 nu t ks) s)):=by
 obtain⟨x,y,zs,rfl,hnm,hx,hy,hz⟩:∃x y zs,ks=x :: y :: zs∧Wri.name t=true∧Wri.right x fn lp=true∧Wri.right y fn lp=true∧∀z∈zs,Wri.right z fn lp=true:=by
  have h:=Wri.rt_of _ _ _ hr
  cases h with
  | try1 _ _ _ b c hn _ hb _ hc=>exact⟨b,c,[],rfl,hn,Wri.of_rt hb,Wri.of_rt hc,fun z hz=>by cases hz⟩
  | try2=>exact absurd rfl hnu
  | try3 _ _ _ b c d hn _ hb _ hc _ hq=>exact⟨b,c,[d],rfl,hn,Wri.of_rt hb,Wri.of_rt hc,fun z hz=>by rcases List.mem_singleton.1 hz with rfl;exact Wri.of_rt hq⟩
 have htr:Scopy.tr (Scopy.hs known dk nm) (N+1) (.mk 29 nu t (x :: y :: zs)) s=((tryAt known dk nm N t x y zs s (zs.length+1)).1,.mk 29 nu ((Scopy.hs known dk nm).decl 29 t ((Scopy.hs known dk nm).push 0 (Scopy.tr (Scopy.hs known dk nm) N x s).1)).2 (tryAt known dk nm N t x y zs s (zs.length+1)).2):=by
  have e:tryAt known dk nm N t x y zs s (zs.length+1)=((Scopy.mapA (Scopy.tr (Scopy.hs known dk nm) N) zs ((Scopy.hs known dk nm).pop (inRoom known dk nm N 29 t y (Scopy.tr (Scopy.hs known dk nm) N x s).1).1)).1,(Scopy.tr (Scopy.hs known dk nm) N x s).2 :: (inRoom known dk nm N 29 t y (Scopy.tr (Scopy.hs known dk nm) N x s).1).2 :: (Scopy.mapA (Scopy.tr (Scopy.hs known dk nm) N) zs ((Scopy.hs known dk nm).pop (inRoom known dk nm N 29 t y (Scopy.tr (Scopy.hs known dk nm) N x s).1).1)).2):=by
   simp only[tryAt]
   rw[Scopy.done_all]
  rw[Scopy.tr29 _ _ _ hnu,e]
  rfl
 rw[htr] at hf ⊢
 have hf0:Scopy.Few (Scopy.mapA (Scopy.tr (Scopy.hs known dk nm) N) zs ((Scopy.hs known dk nm).pop (inRoom known dk nm N 29 t y (Scopy.tr (Scopy.hs known dk nm) N x s).1).1)).1:=by
  have:Scopy.Few (Scopy.done (Scopy.tr (Scopy.hs known dk nm) N) zs ((Scopy.hs known dk nm).pop (inRoom known dk nm N 29 t y (Scopy.tr (Scopy.hs known dk nm) N x s).1).1) zs.length).1:=hf
  rwa [Scopy.done_all] at this
 have hf1:Scopy.Few (inRoom known dk nm N 29 t y (Scopy.tr (Scopy.hs known dk nm) N x s).1).1:=(Scopy.few_back known dk nm).pop _ (Scopy.mapA_back (Scopy.tr_back (Scopy.few_back known dk nm) N) _ _ hf0)
 have hf2:Scopy.Few (Scopy.tr (Scopy.hs known dk nm) N x s).1:=(Scopy.few_back known dk nm).push 0 _ ((Scopy.few_back known dk nm).decl 29 t _ (Scopy.tr_back (Scopy.few_back known dk nm) N y _ hf1))
 have l3:=hst.lk.box.cell 3
 simp[lkc,he] at l3
 have n0:w.cell? ⟨g,o,none⟩=some (.int .i64 29):=by rw[hnd.node.cell];exact hnd.cells 0 (by omega)
 obtain⟨A,cap,hv⟩:=KidsIn.slice hnd.kids
 have hv:v= .slice A (zs.length+2) cap:=hv
 subst hv
 have HC3:=hid (hnd.cells 3 (by omega))
 have HC1:=hid (hnd.cells 1 (by omega))
 have HB:=hid (kbase hst hnd)
 have HK0:Hid (KSt w w l B kb kv known dk nm LS RS NoX s tb tm out dv uv g lo hi C (x :: y :: zs) A (zs.length+2) cap):=hid (kst0 hst hnd)
 have HC:=hid hnd.cells
 have hd0:=hd
 have hdd0:=hdd
 simp only[Pars.deep,Pars.deeps] at hd0 hdd0
 have HD:Hid (Pars.deep x≤N∧Pars.deep y≤N∧Pars.deeps zs≤N∧s.top.deep+Pars.deep x≤1000∧s.top.deep+Pars.deep y≤1000∧s.top.deep+Pars.deeps zs≤1000):=hid (by omega)
 obtain⟨hmc,hc63⟩:=HK0.out.room (by omega)
 obtain⟨b,hA,_,a,c,vx,C2,hn1,hnext⟩:=HK0.out.look (x:=x) (i:=0) HB.out rfl 0 rfl
 subst hA
 have htp:(Scopy.tr (Scopy.hs known dk nm) N x s).1.top=s.top:=by unfold Scopy.St.top;rw[Scopy.rooms_same]
 have htp2:((Scopy.hs known dk nm).pop (inRoom known dk nm N 29 t y (Scopy.tr (Scopy.hs known dk nm) N x s).1).1).top=s.top:=by
  have e:((Scopy.hs known dk nm).pop (inRoom known dk nm N 29 t y (Scopy.tr (Scopy.hs known dk nm) N x s).1).1).rooms=s.rooms:=by
   show (inRoom known dk nm N 29 t y (Scopy.tr (Scopy.hs known dk nm) N x s).1).1.rooms.tail=s.rooms
   unfold inRoom
   rw[Scopy.rooms_same,(Scopy.balanced known dk nm).decl]
   show (Scopy.tr (Scopy.hs known dk nm) N x s).1.rooms=s.rooms
   rw[Scopy.rooms_same]
  unfold Scopy.St.top
  rw[e]
 have HTP:=hid (And.intro htp htp2)
 have g3:w.cell? ⟨g,o+3,none⟩=some (.slice (some ⟨b,0,none⟩) (zs.length+2) cap):=by rw[hnd.node.cell];exact HC3.out
 have HCALL:=hid (ih w _ _ _ _ _ _ _ _ b 0 a c C2 x vx fn lp HK0.out.st hn1 hx HD.out.1 HD.out.2.2.2.1 hf2)
 have HNE:=hid hnext
 have IH:=hid ih
 have HY:=hid (And.intro hy hf1)
 have HZ:=hid (And.intro hz hf0)
 have HTL:=hid (Scopy.name_len hnm)
 obtain⟨p,hp⟩:∃p,zs.length+1=p:=⟨_,rfl⟩
 have HP:=hid hp
 have hp2:zs.length+2=p+1:=by omega
 rw[hp2] at g3 HNE hmc
 rw[hp] at *
 have hmcz:(p:Int)+1≤(cap:Int):=by omega
 have hmz:(0:Int)<(p:Int)+1:=by omega
 have hmz1:(1:Int)≤(p:Int)+1:=by omega
 clear hst hnd hr hd hdd hd0 hdd0 hf ih hx hy hz hn1 hnext hf1 hf2 hf0 htr hnm htp htp2
 go_enter Tryz.func27,Tryz.ntmps27
 go_wp2_with fail
 refine HCALL.out.mono ?_
 rintro e w2 ho
 obtain⟨rfl,dv2,uv2,hk2⟩:=HNE.out N e w2 ho
 have HK2:=hid hk2
 have gj3:w2.cell? ⟨g,o+3,none⟩=some (.slice (some ⟨b,0,none⟩) (p+1) cap):=by rw[HK2.out.node.cell, ←hp2];exact HC3.out
 clear hk2 ho g3
 go_upto_region 26 with fail
 obtain⟨t',ht'⟩:∃t',((Scopy.hs known dk nm).decl 29 t ((Scopy.hs known dk nm).push 0 (Scopy.tr (Scopy.hs known dk nm) N x s).1)).2=t':=⟨_,rfl⟩
 have HT':=hid ht'
 clear ht'
 go_loopg [128] p (fun gg s128 wr=>∃(j:Nat) (dv' uv':Value) (C':Array Value),j≤p∧p - j≤gg∧s128= .int .i64 (j:Int)∧Hid (Same4 C C' o)∧Hid (Cells4 C' o (nc 29 nu (if j=0 then t else t') (.slice (some ⟨b,0,none⟩) (p+1) cap)))∧Hid (KSt w wr l B kb kv known dk nm LS RS NoX (tryAt known dk nm N t x y zs s j).1 tb tm out dv' uv' g lo hi C' (tryAt known dk nm N t x y zs s j).2 (some ⟨b,0,none⟩) (p+1) cap))
 case atStart=>exact⟨0,dv2,uv2,C,Nat.zero_le _,by omega,rfl,hid (Same4.refl C o),by rw[←hp2];exact HC,HK2⟩
 case round=>
  clear HK2 gj3 hmz1 hmz
  obtain⟨j,dvj,uvj,Cj,hj,hgg,rfl,HSA,HCJ,HKj⟩:=hrel
  by_cases hlt:j<p
  ·have hltz:(j:Int)<(p:Int):=by omega
   have hltd:decide ((j:Int)<(p:Int))=true:=decide_eq_true hltz
   have hlt2:(j:Int)+1<(p:Int)+1:=by omega
   have gj3:wr.cell? ⟨g,o+3,none⟩=some (.slice (some ⟨b,0,none⟩) (p+1) cap):=by rw[HKj.out.node.cell];exact HCJ.out 3 (by omega)
   have gj1:wr.cell? ⟨g,o+1,none⟩=some (.int .i64 nu):=by rw[HKj.out.node.cell];exact HCJ.out 1 (by omega)
   have wj:IntKind.i64.wrap ((j:Int)+1)=(j:Int)+1:=by rw[IntKind.wrap_i64];omega
   have hnz:(nu != 2)=true:=by simp[hnu]
   cases j with
   | zero=>
    have h1z:(1:Int)<(p:Int)+1:=by omega
    obtain⟨b2,hA2,_,hcall⟩:=HKj.out.named (x:=y) (i:=1) (t:=t) (N:=N) (k:=29) (nu:=nu) (o:=o) HB.out HCJ.out (by have:=HTL.out;omega) IH.out rfl HY.out.1 HD.out.2.1 (by show (Scopy.tr (Scopy.hs known dk nm) N x s).1.top.deep+_≤_;rw[HTP.out.1];exact HD.out.2.2.2.2.1) HY.out.2 4 rfl
    have hA2:=addr_inj hA2
    subst hA2
    have HCALL2:=hid hcall
    clear hcall
    go_wp2_with fail
    refine HCALL2.out.mono ?_
    rintro e w3 ⟨rfl,dv3,uv3,C3,q1,q2,q3⟩
    have HQ1:=hid (HSA.out.trans q1)
    have q2:Cells4 C3 o (nc 29 nu ((Scopy.hs known dk nm).decl 29 t ((Scopy.hs known dk nm).push 0 (Scopy.tr (Scopy.hs known dk nm) N x s).1)).2 (.slice (some ⟨b,0,none⟩) (p+1) cap)):=q2
    rw[HT'.out] at q2
    have HQ2:=hid q2
    have e1:tryAt known dk nm N t x y zs s 1=((Scopy.hs known dk nm).pop (inRoom known dk nm N 29 t y (Scopy.tr (Scopy.hs known dk nm) N x s).1).1,(Scopy.tr (Scopy.hs known dk nm) N x s).2 :: (inRoom known dk nm N 29 t y (Scopy.tr (Scopy.hs known dk nm) N x s).1).2 :: zs):=by
     simp only[tryAt]
     rw[Scopy.done_zero]
    have HQ3:Hid (KSt w w3 l B kb kv known dk nm LS RS NoX (tryAt known dk nm N t x y zs s 1).1 tb tm out dv3 uv3 g lo hi C3 (tryAt known dk nm N t x y zs s 1).2 (some ⟨b,0,none⟩) (p+1) cap):=by rw[e1];exact q3
    clear q1 q2 q3 e1
    go_wp2_with fail
    go_roundg (p - 1)
    case measure=>omega
    case rel=>exact⟨1,dv3,uv3,C3,by omega,by omega,by go_num,HQ1,HQ2,HQ3⟩
   | succ j=>
    have hjz:(((j+1:Nat):Int)==0)=false:=by simp;omega
    have hjd:decide (((j+1:Nat):Int)=0)=false:=decide_eq_false (by omega)
    have hp0:=HP.out
    obtain⟨z,hz⟩:∃z,zs[j]? =some z:=⟨_,List.getElem?_eq_getElem (by omega)⟩
    have hzm:=List.mem_of_getElem? hz
    have hzd:=deep_mem hzm
    have hd0:=HD.out
    have hnx:=Scopy.done_succ (Scopy.tr (Scopy.hs known dk nm) N) ((Scopy.hs known dk nm).pop (inRoom known dk nm N 29 t y (Scopy.tr (Scopy.hs known dk nm) N x s).1).1) hz
    have hfx:=Scopy.done_back (Scopy.tr_back (Scopy.few_back known dk nm) N) (l:=zs) (s:=(Scopy.hs known dk nm).pop (inRoom known dk nm N 29 t y (Scopy.tr (Scopy.hs known dk nm) N x s).1).1) (j+1) HZ.out.2
    rw[hnx] at hfx
    have htz:(tryAt known dk nm N t x y zs s (j+1)).1.top=s.top:=by
     show (Scopy.done (Scopy.tr (Scopy.hs known dk nm) N) zs ((Scopy.hs known dk nm).pop (inRoom known dk nm N 29 t y (Scopy.tr (Scopy.hs known dk nm) N x s).1).1) j).1.top=_
     rw[Scopy.done_top];exact HTP.out.2
    obtain⟨b2,hA2,_,a3,c3,vx3,C3,hn3,hnext3⟩:=HKj.out.look (x:=z) (i:=j+2) HB.out (by show (_ :: _ :: (Scopy.done _ zs _ j).2)[j+2]? =some z;simpa using Scopy.done_at _ _ hz) ((j+1+1) * 4) rfl
    have hA2:=addr_inj hA2
    subst hA2
    have e2:tryAt known dk nm N t x y zs s (j+2)=((Scopy.tr (Scopy.hs known dk nm) N z (tryAt known dk nm N t x y zs s (j+1)).1).1,(tryAt known dk nm N t x y zs s (j+1)).2.set (j+2) (Scopy.tr (Scopy.hs known dk nm) N z (tryAt known dk nm N t x y zs s (j+1)).1).2):=by
     simp only[tryAt]
     rw[hnx]
     rfl
    have HE2:=hid e2
    have HCALL2:=hid (IH.out wr _ _ _ _ _ _ _ _ b ((j+1+1) * 4) a3 c3 C3 z vx3 fn lp HKj.out.st hn3 (HZ.out.1 z hzm) (by omega) (by rw[htz];omega) hfx)
    have HNE3:=hid hnext3
    clear hnx hfx hz hzm hzd hn3 hnext3 e2 htz
    go_wp2_with fail
    refine HCALL2.out.mono ?_
    rintro e w3 ho
    obtain⟨rfl,dv3,uv3,hk3⟩:=HNE3.out N e w3 ho
    have HK3:=hid hk3
    clear hk3 ho
    go_wp2_with fail
    go_roundg (p - (j+2))
    case measure=>omega
    case rel=>exact⟨j+2,dv3,uv3,Cj,by omega,by omega,by go_num,HSA,HCJ,by rw[HE2.out];exact HK3⟩
  ·have hltz:¬(j:Int)<(p:Int):=by omega
   have hltd:decide ((j:Int)<(p:Int))=false:=decide_eq_false hltz
   obtain rfl:j=p:=by omega
   have hp0:=HP.out
   have hj0:(if j=0 then t else t')=t':=if_neg (by omega)
   rw[hj0] at HCJ
   go_wp2_with fail
   refine bodyPost_end (results_none rfl _ _ _) rfl ?_
   exact HKj.out.ends (fun _ _ h=>h) (by first | rfl | rw[hp2]) HSA.out (by have:=HCJ.out;rw[←HT'.out] at this;exact this) rfl rfl rfl rfl
end
end Go.Proofs.YtflmjbmdmoifhaaGreatDoor
