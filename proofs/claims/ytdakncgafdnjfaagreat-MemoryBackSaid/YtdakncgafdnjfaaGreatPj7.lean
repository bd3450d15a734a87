/- 7: a part of this claim's texts, joined: WalV PlainFail PlainVaultB PlainVaultC VaultG VaultH W11 W12 W13 TermI PlainDecB PlainDecC PlainVaultD TermJ MemC MemD MemE. -/
import Derived.Test.YtdakncgafdnjfaaGreatPj6
import Derived.SizedLaws
import Derived.OpenShut
namespace Go.Proofs.YtdakncgafdnjfaaGreat
open Go Go.Wk
set_option synthInstance.maxSize 100000
set_option synthInstance.maxHeartbeats 400000
set_option maxRecDepth 100000
structure LV where
 s:DS
 n:Nat
 turn:Int
 said:List (List UInt8)
 fin:Nat
 broken:Bool
def LG.v (L:LG):LV:=⟨L.s,L.x.n,L.x.turn,bsL L.x.said,L.x.fin,L.x.broken⟩
def LV.x (V:LV):WS:=⟨V.n,V.turn,[],V.fin,V.broken⟩
structure LV.Wf (V:LV) (k:Nat):Prop where
 n:V.n≤1000
 fin:V.fin≤V.n
 some_:0 < V.said.length
 few:V.said.length≤V.fin
 short:∀ b∈V.said,b.length≤40000
 turn:0≤V.turn∧V.turn≤4294967295
 loose:V.s.loose.length≤k
def appV (V:LV) (bs:List UInt8):LV × Int:=
 if roomF V.x bs≠0 then (V,roomF V.x bs) else
 if (layF V.s ((fromN V.n V.turn+V.fin:Nat):Int) (leavesF V.turn (V.said.length:Int) bs)).2=0 then
  ({ V with s:=(layF V.s ((fromN V.n V.turn+V.fin:Nat):Int) (leavesF V.turn (V.said.length:Int) bs)).1,said:=V.said++[bs],fin:=V.fin+secN bs.length },0)
 else ({ V with s:=(layF V.s ((fromN V.n V.turn+V.fin:Nat):Int) (leavesF V.turn (V.said.length:Int) bs)).1,broken:=true },(layF V.s ((fromN V.n V.turn+V.fin:Nat):Int) (leavesF V.turn (V.said.length:Int) bs)).2)
def chkV (V:LV) (bs:List UInt8):LV × Int:=
 if roomC V.x bs≠0 then (V,roomC V.x bs) else
 if (begF V.n (upT V.turn) bs V.s).2=0 then ({ V with s:=(begF V.n (upT V.turn) bs V.s).1,turn:=upT V.turn,said:=[bs],fin:=secN bs.length },0)
 else ({ V with s:=(begF V.n (upT V.turn) bs V.s).1,broken:=true },(begF V.n (upT V.turn) bs V.s).2)
theorem v_len (L:LG):L.v.said.length=L.x.said.length:=List.length_map _
theorem append_v (b g:Nat) (L:LG) (k:Nat) (y:LBy) (h:L.v.Wf k) (hk:k≤980000) (hyl:y.bs.length≤10000000) (w0:World) (hd:(lgI b g L).holds w0) (f0:Stable (lgI b g L).foot w0 (GlF y.p y.bs)) :
  Ret Tryz.prog 20 [.pointer (some ⟨g,0,none⟩),.slice y.p y.bs.length y.c] w0 (lgI b g L).foot fun v w'=>∃ L',v=.int .i64 (appV L.v y.bs).2∧(lgI b g L').holds w'∧(∀ k,(lgI b g L').foot k→(lgI b g L).foot k∨w0.heap.size≤k)∧L'.m=L.m∧L'.v=(appV L.v y.bs).1:=by
 have hvl:=v_len L
 have hcap:=lg_cap hd
 obtain ⟨m,p,c,s,q,e,x⟩:=L
 have hn:x.n≤1000:=h.n
 have hfi:x.fin≤x.n:=h.fin
 have hs0:=h.some_
 have hsf:(LG.v ⟨m,p,c,s,q,e,x⟩).said.length≤x.fin:=h.few
 have ht:0≤x.turn∧x.turn≤4294967295:=h.turn
 have hl:s.loose.length≤k:=h.loose
 have hvl:(LG.v ⟨m,p,c,s,q,e,x⟩).said.length=x.said.length:=hvl
 rw[hvl]at hs0 hsf
 have hcap:x.said.length≤e:=hcap
 refine (append_c g b m p c s q e x y w0 hn hfi ⟨by omega,hcap⟩ hs0 ht hyl (by omega) hd f0).mono fun v w'=>?_
 have hrm:roomF (LG.v ⟨m,p,c,s,q,e,x⟩).x y.bs=roomF x y.bs:=rfl
 unfold appV
 rw[hrm,hvl]
 rintro (⟨ha,rfl,hb⟩ | ⟨ha,rfl,p',c',q',e',y',hy',he',hh,hf⟩)
 rw[if_pos ha]
 exact ⟨⟨m,p,c,s,q,e,x⟩,rfl,hb,fun k hk=>.inl hk,rfl,rfl⟩
 rw[if_neg (fun h=>h ha)]
 have hR:layF (LG.v ⟨m,p,c,s,q,e,x⟩).s ((fromN (LG.v ⟨m,p,c,s,q,e,x⟩).n (LG.v ⟨m,p,c,s,q,e,x⟩).turn+(LG.v ⟨m,p,c,s,q,e,x⟩).fin:Nat):Int) (leavesF (LG.v ⟨m,p,c,s,q,e,x⟩).turn (x.said.length:Int) y.bs)=layF s ((fromN x.n x.turn+x.fin:Nat):Int) (leavesF x.turn (x.said.length:Int) y.bs):=rfl
 rw[hR]
 obtain ⟨R,hR⟩:∃ R,R=layF s ((fromN x.n x.turn+x.fin:Nat):Int) (leavesF x.turn (x.said.length:Int) y.bs):=⟨_,rfl⟩
 rw[←hR]at hh hf⊢
 refine ⟨⟨m,p',c',R.1,q',e',appS x y' R.2⟩,?_,hh,hf,rfl,?_⟩
 by_cases h2:R.2=0
 rw[if_pos h2,h2]
 rw[if_neg h2]
 by_cases h2:R.2=0
 rw[if_pos h2]
 show LG.v _=_
 unfold LG.v appS
 rw[if_pos h2]
 simp only[bsL,List.map_append,List.map_cons,List.map_nil,hy']
 rw[if_neg h2]
 show LG.v _=_
 unfold LG.v appS
 rw[if_neg h2]
theorem chk_v (b g:Nat) (L:LG) (k:Nat) (y:LBy) (h:L.v.Wf k) (hk:k≤980000) (hyl:y.bs.length≤10000000) (w0:World) (hd:(lgI b g L).holds w0) (f0:Stable (lgI b g L).foot w0 (GlF y.p y.bs)) :
  Ret Tryz.prog 19 [.pointer (some ⟨g,0,none⟩),.slice y.p y.bs.length y.c] w0 (lgI b g L).foot fun v w'=>∃ L',v=.int .i64 (chkV L.v y.bs).2∧(lgI b g L').holds w'∧(∀ k,(lgI b g L').foot k→(lgI b g L).foot k∨w0.heap.size≤k)∧L'.m=L.m∧L'.v=(chkV L.v y.bs).1:=by
 obtain ⟨m,p,c,s,q,e,x⟩:=L
 have hn:x.n≤1000:=h.n
 have ht:0≤x.turn∧x.turn≤4294967295:=h.turn
 have hl:s.loose.length≤k:=h.loose
 refine (chk_c g b m p c s q e x y w0 hn ht hyl (by omega) hd f0).mono fun v w'=>?_
 have hrm:roomC (LG.v ⟨m,p,c,s,q,e,x⟩).x y.bs=roomC x y.bs:=rfl
 unfold chkV
 rw[hrm]
 rintro (⟨ha,rfl,hb⟩ | ⟨ha,rfl,p',c',q',e',y',hy',-,-,hh,hf⟩)
 rw[if_pos ha]
 exact ⟨⟨m,p,c,s,q,e,x⟩,rfl,hb,fun k hk=>.inl hk,rfl,rfl⟩
 rw[if_neg (fun h=>h ha)]
 have hR:begF (LG.v ⟨m,p,c,s,q,e,x⟩).n (upT (LG.v ⟨m,p,c,s,q,e,x⟩).turn) y.bs (LG.v ⟨m,p,c,s,q,e,x⟩).s=begF x.n (upT x.turn) y.bs s:=rfl
 rw[hR]
 obtain ⟨R,hR⟩:∃ R,R=begF x.n (upT x.turn) y.bs s:=⟨_,rfl⟩
 rw[←hR]at hh hf⊢
 refine ⟨⟨m,p',c',R.1,q',e',chkS x y' R.2⟩,?_,hh,hf,rfl,?_⟩
 by_cases h2:R.2=0
 rw[if_pos h2,h2]
 rw[if_neg h2]
 by_cases h2:R.2=0
 rw[if_pos h2]
 show LG.v _=_
 unfold LG.v chkS
 rw[if_pos h2]
 simp only[bsL,List.map_cons,List.map_nil,hy']
 rw[if_neg h2]
 show LG.v _=_
 unfold LG.v chkS
 rw[if_neg h2]
def opnV (s:DS):LV:=⟨(openF s).1,(openF s).2.2.n,(openF s).2.2.turn,(openF s).2.2.said,(openF s).2.2.fin,false⟩
theorem readF_ok (t:Int) (field:List Blk):∀ (f at_ j:Nat),at_≤field.length→(readF t field f at_ j).1.length+at_≤(readF t field f at_ j).2∧(readF t field f at_ j).2≤field.length∧∀ b∈(readF t field f at_ j).1,b.length≤40000
 | 0,at_,j,h=>⟨by simp[readF],h,fun b hb=>by simp[readF]at hb⟩
 | f+1,at_,j,h=>by
  rw[readF]
  cases hs:standF t field at_ (j:Int) with
  | none=>exact ⟨by simp,h,fun b hb=>by simp at hb⟩
  | some bs=>
   have h1:=stand_len hs
   have h2:=stand_get hs
   have h3:=secN_pos bs.length
   obtain ⟨r1,r2,r3⟩:=readF_ok t field f (at_+secN bs.length) (j+1) h1
   refine ⟨?_,r2,fun b hb=>?_⟩
   simp only[qqA];omega
   rcases List.mem_cons.1 hb with rfl | hb
   exact h2.1
   exact r3 b hb
theorem opnV_wf {s:DS} (h:(openF s).2.1=0):(opnV s).Wf (s.loose.length+1000):=by
 have hlo:=openF_loose s
 have hcok:=cntF_ok s
 by_cases h1:(cntF s).2.1=0
 obtain ⟨hz,hn,ht⟩:=hcok.2 h1
 have e1:openF s=openB (cntF s).2.2.n.toNat (cntF s).2.2.t (cntF s).1:=by rw[openF,if_pos h1]
 obtain ⟨n,hn'⟩:∃ n,n=(cntF s).2.2.n.toNat:=⟨_,rfl⟩
 have hn1:n≤1000:=by omega
 rw[←hn']at e1
 by_cases h2:(fieldW (fromN n (cntF s).2.2.t) n 0 (cntF s).1).2.1=0
 have e2:=e1
 rw[openB,if_pos h2]at e2
 have hfl:=(fieldW_same (fromN n (cntF s).2.2.t) n 0 (cntF s).1).2
 obtain ⟨F,hF⟩:∃ F,F=fieldW (fromN n (cntF s).2.2.t) n 0 (cntF s).1:=⟨_,rfl⟩
 rw[←hF]at e2 hfl
 have hrd:=readF_ok (cntF s).2.2.t F.2.2 F.2.2.length 0 0 (Nat.zero_le _)
 rw[openC]at e2
 by_cases h3:(readF (cntF s).2.2.t F.2.2 F.2.2.length 0 0).1=[]
 rw[if_pos h3]at e2;rw[e2]at h;cases h
 rw[if_neg h3]at e2
 by_cases h4:(clrF (fromN n (cntF s).2.2.t) (readF (cntF s).2.2.t F.2.2 F.2.2.length 0 0).2 F.2.2 F.1).2=0
 rw[if_pos h4]at e2
 have h5:=List.length_pos_iff.2 h3
 unfold opnV
 refine ⟨?_,?_,?_,?_,?_,?_,hlo⟩ <;> rw[e2]
 exact hn1
 show (readF _ _ _ _ _).2≤n;omega
 exact h5
 show (readF _ _ _ _ _).1.length≤(readF _ _ _ _ _).2;omega
 exact hrd.2.2
 exact ht
 rw[if_neg h4]at e2;rw[e2]at h;exact absurd h h4
 rw[openB,if_neg h2]at e1;rw[e1]at h;exact absurd h h2
 rw[openF,if_neg h1]at h;exact absurd h h1
theorem openV_c (b m:Nat) (p:Option Addr) (c:Nat) (s:DS) (hl:s.loose.length≤980000) (w0:World) (hd:(dkI b m p c s).holds w0) :
  Ret Tryz.prog 54 [.pointer (some ⟨b,0,none⟩)] w0 (dkI b m p c s).foot fun v w'=>
   ((openF s).2.1≠0∧v=.tuple ⟨[.pointer none,.int .i64 (openF s).2.1]⟩∧∃ p' c',(dkI b m p' c' (openF s).1).holds w'∧∀ k,(dkI b m p' c' (openF s).1).foot k→(dkI b m p c s).foot k∨w0.heap.size≤k)∨
   ((openF s).2.1=0∧∃ g L,v=.tuple ⟨[.pointer (some ⟨g,0,none⟩),.int .i64 0]⟩∧L.m=m∧L.v=opnV s∧(lgI b g L).holds w'∧∀ k,(lgI b g L).foot k→(dkI b m p c s).foot k∨w0.heap.size≤k):=by
 refine (open_c b m p c s w0 hl hd).mono fun v w'=>?_
 rintro (h | ⟨h0,g,p',c',q,e,x,hv,⟨x1,x2,x3,x4,x5⟩,hh,hf⟩)
 exact .inl h
 refine .inr ⟨h0,g,⟨m,p',c',(openF s).1,q,e,x⟩,hv,rfl,?_,hh,hf⟩
 unfold LG.v opnV
 simp only[x1,x2,x4,x5,bsL,x3]
def fmtV (n:Nat) (s:DS):LV:=⟨(fmtF n s).1,n,0,[[]],1,false⟩
theorem format_v (b m n:Nat) (p:Option Addr) (c:Nat) (s:DS) (hm:mayF s n=true) (hl:s.loose.length≤980000) (w0:World) (hd:(dkI b m p c s).holds w0) :
  Ret Tryz.prog 18 [.pointer (some ⟨b,0,none⟩),.int .i64 (n:Int)] w0 (dkI b m p c s).foot fun v w'=>
   ((fmtF n s).2≠0∧v=.tuple ⟨[.pointer none,.int .i64 (fmtF n s).2]⟩∧∃ p' c',(dkI b m p' c' (fmtF n s).1).holds w'∧∀ k,(dkI b m p' c' (fmtF n s).1).foot k→(dkI b m p c s).foot k∨w0.heap.size≤k)∨
   ((fmtF n s).2=0∧∃ g L,v=.tuple ⟨[.pointer (some ⟨g,0,none⟩),.int .i64 0]⟩∧L.m=m∧L.v=fmtV n s∧(lgI b g L).holds w'∧∀ k,(lgI b g L).foot k→(dkI b m p c s).foot k∨w0.heap.size≤k):=by
 refine (format_c b m n p c s w0 hm hl hd).mono fun v w'=>?_
 rintro (h | ⟨h0,g,p',c',q,e,hv,hh,hf⟩)
 exact .inl h
 exact .inr ⟨h0,g,⟨m,p',c',(fmtF n s).1,q,e,newW n⟩,hv,rfl,rfl,hh,hf⟩
theorem left_v (b g:Nat) (L:LG) (k:Nat) (h:L.v.Wf k) (w0:World) (hd:(lgI b g L).holds w0):Ret Tryz.prog 100 [.pointer (some ⟨g,0,none⟩)] w0 (fun _=>False) fun v _=>v=.int .i64 ((L.v.n:Int) - L.v.fin):=by
 have h1:=h.n
 have h2:=h.fin
 have h3:=h.few
 have h4:=h.some_
 rw[v_len]at h3 h4
 exact wleft_c g b L.q L.e L.x ⟨by omega,h4⟩ (show L.v.fin≤_ by omega) h1 w0 (BoxF.stable hd.2.1.1 (fun h=>h))
theorem broken_v (b g:Nat) (L:LG) (w0:World) (hd:(lgI b g L).holds w0):Ret Tryz.prog 99 [.pointer (some ⟨g,0,none⟩)] w0 (fun _=>False) fun v _=>v=.bool L.v.broken:=
 wbroken_c g b L.q L.e L.x w0 (BoxF.stable hd.2.1.1 (fun h=>h))
theorem snap_v (b g:Nat) (L:LG) (k:Nat) (h:L.v.Wf k) (w0:World) (hd:(lgI b g L).holds w0) :
  Ret Tryz.prog 86 [.pointer (some ⟨g,0,none⟩)] w0 (fun _=>False) fun v w'=>∃ bs p' c',L.v.said[0]? = some bs∧v=.slice p' bs.length c'∧w'.ownsRow 0 5 1 (.slice p' bs.length c') bs.length (encL bs)∧∀ ad,p'=some ad→w0.heap.size≤ad.block:=by
 have h4:=h.some_
 rw[v_len]at h4
 have hg:=nthG_get h4
 have e0:L.v.said[0]? = some (nthG L.x.said 0).bs:=by
  show (bsL L.x.said)[0]? = _
  rw[bsL,List.getElem?_map,hg];rfl
 have hs:=h.short _ (List.mem_of_getElem? e0)
 have hent:=(allBy_ent hd.2.1.2.1.2.1).imp fun _ h=>h (nthG L.x.said 0) (List.mem_of_getElem? hg)
 refine (snap_c g b L.q L.e L.x (nthG L.x.said 0) h4 rfl (by omega) w0 (BoxF.stable hd.2.1.1 (fun h=>h)) (gl_own hd.2.1.2.1.1 (fun _ _ _ _=>trivial) (fun _ _ h=>h)) hent).mono fun v w'=>?_
 rintro ⟨p',c',h1,h2,h3⟩
 exact ⟨_,p',c',e0,h1,h2,h3⟩
def Cnt.ok (c:Cnt):Prop:=c.on=true→0≤c.left∧c.left≤9223372036854775807
def bothC (f a:Cnt):Cnt:=if f.on then (if a.on then (if f.left≤a.left then f else a) else f) else a
structure Same3 (r r':DS):Prop where
 loose:r.loose=r'.loose
 firm:r.firm=r'.firm
 size:r.size=r'.size
structure Sim (s s':DS):Prop where
 same:Same3 s s'
 on:s.out=false
 up:Up s'
 arms:s'.arms=bothC s.fails s.arms
 okf:s.fails.ok
 oka:s.arms.ok
def LiveF (s:DS) (n:Nat) (t:Int) (said:List (List UInt8)):Prop:=∃ s',Sim s s'∧Live s' n t said
theorem Live.liveF {s:DS} {n:Nat} {t:Int} {said:List (List UInt8)} (h:Live s n t said) (ha:s.arms.ok):LiveF s n t said:=by
 obtain ⟨tail,hL,_⟩:=id h
 refine ⟨s,⟨⟨rfl,rfl,rfl⟩,hL.up.on,hL.up,?_,?_,ha⟩,h⟩
 rw[bothC,if_neg (by rw[hL.up.fit];exact Bool.false_ne_true)]
 intro h1;rw[hL.up.fit]at h1;cases h1
structure LvOk (V:LV) (n:Nat) (t:Int) (said:List (List UInt8)):Prop where
 num:V.n=n
 turn:V.turn=t
 says:V.said=said
 fin:V.fin=endF t said
 whole:V.broken=false
 live:LiveF V.s n t said
theorem LvOk.wf {V:LV} {n:Nat} {t:Int} {said:List (List UInt8)} (h:LvOk V n t said):V.Wf 0:=by
 obtain ⟨s',hs,tail,hL,-⟩:=h.live
 have hlen:=hL.len
 have hfew:=hL.few
 have hll:=laid_len t said 0
 refine ⟨by rw[h.num];exact hL.hn.2,by rw[h.num,h.fin];omega,by rw[h.says];exact hfew.2,by rw[h.says,h.fin];exact hll,by rw[h.says];exact hL.short,by rw[h.turn];exact hL.ht,?_⟩
 rw[hs.same.loose,hL.loose];exact Nat.le_refl _
structure LvOff (V:LV) (n:Nat) (t:Int) (said:List (List UInt8)):Prop where
 ok:LvOk V n t said
 live:Live V.s n t said
 off:V.s.arms.on=false
theorem fmt_lv (n:Nat) (hn:4≤n∧n≤1000):LvOff (fmtV n (newD ((2*n+2:Nat):Int))) n 0 [[]]:=by
 obtain ⟨h1,h2,h3⟩:=format_live n hn
 exact ⟨⟨rfl,rfl,rfl,rfl,rfl,h2.liveF (fun h=>by rw[h3]at h;cases h)⟩,h2,h3⟩
theorem room_lv {V : LV} {n : Nat} {t : Int} {said : List (List UInt8)} (h : LvOk V n t said) (bs : List UInt8) (hb : bs.length ≤ 40000) : roomF V.x bs = if n < endF t said + secN bs.length then 6 else 0 := by
  obtain ⟨q1, q2, q3, q4, q5, q6⟩ := h
  obtain ⟨s, n', turn, said', fin, broken⟩ := V
  simp only at q1 q2 q3 q4 q5 q6
  subst q1 q2 q3 q4 q5
  have e1 : refF (LV.x ⟨s, n', turn, said', endF turn said', false⟩) bs = 0 := by
    rw [refF, if_neg (by omega)]; rfl
  obtain ⟨s', hs, tail, hL, -⟩ := q6
  have hlen := hL.len
  have hll := laid_len turn said' 0
  rw [roomF, if_pos e1]
  show (if n' - endF turn said' < secN bs.length then (6 : Int) else 0) = _
  by_cases h : n' < endF turn said' + secN bs.length
  · rw [if_pos h, if_pos (by omega)]
  · rw [if_neg h, if_neg (by have : endF turn said' ≤ n' := by omega
                             omega)]
theorem app_off {V:LV} {n:Nat} {t:Int} {said:List (List UInt8)} (h:LvOff V n t said) (bs:List UInt8) (hb:bs.length≤40000) (hr:endF t said+secN bs.length≤n) :
  (appV V bs).2=0∧LvOff (appV V bs).1 n t (said++[bs]):=by
 have hroom:=room_lv h.ok bs hb
 rw[if_neg (by omega)]at hroom
 obtain ⟨⟨q1,q2,q3,q4,q5,q6⟩,hl,ho⟩:=h
 obtain ⟨s,n',turn,said',fin,broken⟩:=V
 simp only at q1 q2 q3 q4 q5 q6 hl ho hroom
 subst q1 q2 q3 q4 q5
 obtain ⟨a1,a2,a3⟩:=(append_live hl bs hb hr).resolve_right (fun h=>by rw[ho]at h;cases h.1)
 have he:endF turn (said'++[bs])=endF turn said'+secN bs.length:=by
  rw[endF_sum,endF_sum,List.map_append,List.sum_append];simp
 unfold appV
 rw[if_neg (fun h=>h hroom),if_pos a1]
 exact ⟨rfl,⟨⟨rfl,rfl,rfl,he.symm,rfl,a2.liveF (fun h=>by rw[a3 ho]at h;cases h)⟩,a2,a3 ho⟩⟩
structure VT where
 L:LG
 p:Option Addr
 c:Nat
 xs:List LRow
end Go.Proofs.YtdakncgafdnjfaaGreat
namespace Go.Wk
open Go Go.Deep Go.ChangeShapes Go.WideShapes Go.ChangeAt Go.RowKit
class TroZ (P:Program) (T:TypeId) (α:Type) [Lay α] (Z:outParam (α→Prop)):Prop where
 of:∀ {H:Type} (enc:TypeId × Value→H) (w:World) (base:Nat) (spare:Nat→Bool) (held:Bool) (fuel:Nat) (cs:List Value) (x:DataW H × List MemPlace),DataW.trod enc P w base spare held fuel T cs=some x→∃ a:α,cs=Enc.cells a∧Lay.inn w a∧((∀ n∈x.1.weights P T,n≤reachBytes)→Z a)
 size:P.cellsOf T=Enc.sz α
open Go
def kvI (x:Int × Value):Value × Value:=(.int .i64 x.1,x.2)
def mpin (b r:Nat) (kv done:List (Int × Value)):Item where
 foot:=fun k=>k=b∨k=r
 holds:=fun w=>∃ (es:Array MapEntry) (clock:Nat) (ds:List MapEntry),w.heap[b]? = some (.map es clock)∧es.toList.map enKV=kv.map kvI∧(∀ e∈es.toList,e.born < clock)∧(es.toList.map (·.born)).Nodup∧
  w.heap[r]? = some (.mapIter (some b) clock (ds.map (·.born)).toArray clock)∧(∀ e∈ds,e∈es.toList)∧(ds.map (·.born)).Nodup∧ds.map enKV=done.map kvI
class HasMpin (bs:List Item) (r:Nat) (b:outParam Nat) (kv done:outParam (List (Int × Value))):Prop where mem:mpin b r kv done∈bs
class HasMpinnB (bs:List Item) (b:Nat) (kv:outParam (List (Int × Value))):Prop where mem:∃ r done,mpin b r kv done∈bs
section
variable {P:Program} {r0:Option Nat} {ops:Array Oper} {Q:Exit→Act→World→Prop} {w0:World} {M0:Nat→Prop} {ds:List Deferred} {a:Act} {w:World} {l:List Value} {bs:List Item} {fs:List (World→Prop)}
 {d:Option Nat} {op:Op} {ty:TypeId} {pos:String} {af:Array Edge} {rest:List Oper} {t kt et:TypeId} {x:Operand} {b:Nat} {kv:List (Int × Value)}
end
section
variable {P:Program} {ops:Array Oper} {C:World→Prop} {X:XP}
def ACXL (last:Nat) (P:Program) (ops:Array Oper) (X:XP) (C:World→Prop) (R:Act→World→Prop):Nat→Array Bool→Act→World→Prop
 | 0,listed,a,w=>Region.ready .any ops listed=[]∧R a w
 | fuel+1,listed,a,w=>
  (Region.ready .any ops listed=[]→R a w)∧
  ∀ i∈Region.ready .any ops listed,WNX P ops X i (fun a' w'=>(i≠last→C w')∧ACXL last P ops X C R fuel (listed.setIfInBounds i true) a' w') a w
variable {R:Act→World→Prop}
theorem acxl_first {last i:Nat} {oi:Oper} {v:Value} (hi:ops[i]? = some oi) (hoff:X.off oi) (hsel:∀ (j:Nat) (o:Oper) cs b,ops[j]? = some o→o.op≠.select cs b) :
  (i≠last∧∀ o,ops[last]? = some o→∃ e∈o.after,Region.binds .any e=true∧e.on=i)→∀ (fuel:Nat) (listed:Array Bool) (a:Act) (w:World),
   (∀ j oj,ops[j]? = some oj→j≠i→listed.getD j true=false→(∀ e∈oj.after,Region.binds .any e=true→e.on≠i)→oi.apart ops oj=true)→
   i∈Region.ready .any ops listed→YieldsC P ops C oi v a→C w→
   ACXL last P ops X C R fuel (listed.setIfInBounds i true) (a.put oi.dst v) w→ACXL last P ops X C R (fuel+1) listed a w:=by
 intro hlast fuel
 induction fuel with
 | zero=>
  intro listed a w _ hr hy hS H
  refine ⟨fun h=>(by rw[h]at hr;cases hr),fun j hj=>?_⟩
  by_cases hji:j=i
  ·subst hji;exact hy.wnx hi hS ⟨fun _=>hS,H⟩
  ·have:=ready_mono hj hji
   rw[H.1]at this
   cases this
 | succ fuel ih=>
  intro listed a w hfree hr hy hS H
  refine ⟨fun h=>(by rw[h]at hr;cases hr),fun j hj=>?_⟩
  by_cases hji:j=i
  ·subst hji;exact hy.wnx hi hS ⟨fun _=>hS,H⟩
  ·have h1:=H.2 j (ready_mono hj hji)
   obtain ⟨hjun,oj,hoj,hall⟩:=mem_ready.1 hj
   have hnot:∀ e∈oj.after,Region.binds .any e=true→e.on≠i:=fun e he hb heq=>by
    have h1:=hall e he hb
    have h0:=(mem_ready.1 hr).1
    rw[heq]at h1
    rcases Nat.lt_or_ge i listed.size with h' | h'
    ·simp[h']at h0 h1;rw[h0]at h1;cases h1
    ·simp[Array.getElem?_eq_none h']at h1
   have hjl:j≠last:=fun e=>by
    obtain ⟨e',he',hb',ho'⟩:=hlast.2 oj (e▸hoj)
    exact hnot e' he' hb' ho'
   have h2:=wnx_put hoj (hfree j oj hoj hji hjun hnot) hoff (fun cs b=>hsel i oi cs b hi) (fun cs b=>hsel j oj cs b hoj) hy h1
   have hfree':∀ k ok,ops[k]? = some ok→k≠i→(listed.setIfInBounds j true).getD k true=false→
     (∀ e∈ok.after,Region.binds .any e=true→e.on≠i)→oi.apart ops ok=true:=fun k ok hk hki hun hno=>by
    refine hfree k ok hk hki ?_ hno
    by_cases hjk:j=k
    ·subst hjk;exact hjun
    ·rw[getD_set_ne true hjk]at hun;exact hun
   refine wpOpIn_mono (fun a' w' h3=>⟨h3.2.1,ih (listed.setIfInBounds j true) a' w' hfree' (ready_mono hr (Ne.symm hji)) h3.1 (h3.2.1 hjl) ?_⟩) h2
   rw[Array.setIfInBounds_comm _ _ hji]
   exact h3.2.2
variable {r:Option Nat} {Q:Exit→Act→World→Prop} {w0:World} {M0:Nat→Prop} {ds:List Deferred} {a:Act} {w:World} {l l':List Value} {bs bs' bs0:List Item} {fs fs0:List (World→Prop)}
 {d:Option Nat} {op:Op} {ty:TypeId} {pos:String} {af:Array Edge} {rest:List Oper} {v v' G:Value} {j g:Nat} {pol:Bool} {cs:List Bool} {n last:Nat} {listed:Array Bool}
def AQXL (last:Nat) (P:Program) (ops:Array Oper) (X:XP) (C:World→Prop) (R:Act→World→Prop) (ord:List (Nat × Bool)) (a:Act) (w:World):Prop:=
 ∀ listed,Region.noSelect ops=true→X.offB ops=true→flowFromL last ops ord listed=true→ACXL last P ops X C R ord.length listed a w
variable {ord:List (Nat × Bool)} {i:Nat}
theorem dqXL (S:St w0 M0 ds a w l bs fs) [hb:SubL bs0 bs] [hf:SubL fs0 fs] [ho:OpAt ops i ⟨d,op,ty,pos,af,none⟩] [hq:OpQ P op ty ⟨[],l⟩ bs0 fs0 v] [hp:PutO l d v l']
  (K:∀ a,St w0 M0 ds a w l' bs fs→AQXL last P ops X (fun w=>Wd w0 M0 w bs0 fs0) R ord a w) :
  AQXL last P ops X (fun w=>Wd w0 M0 w bs0 fs0) R ((i,true)::ord) a w:=by
 intro listed hs hx hflow
 simp only[flowFromL,Bool.and_eq_true]at hflow
 refine acxl_first ho.eq (XP.offB_spec hx ho.eq) (Region.noSelect_spec hs) (feeds_spec hflow.1.2) _ listed a w (Region.free_spec ho.eq hflow.1.1.2) (by simpa using hflow.1.1.1) (v:=v) (.inl ⟨rfl,fun w' hw'=>?_⟩) (S.wd.sub hb.sub hf.sub) (K _ S.put _ hs hx hflow.2)
 rw[execOp_eq]
 exact hq.run a.eval w' S.fr hw'.mem
theorem dlXL {o:Oper} {C:World→Prop} [ho:OpAt ops i o] (h:WL P none ops (fun e a' w'=>(e=.normal∧(i≠last→C w')∧AQXL last P ops X C R ord a' w')∨X.at e a' w') [o] a w):AQXL last P ops X C R ((i,false)::ord) a w:=by
 intro listed hs hx hflow
 simp only[flowFromL,Bool.and_eq_true]at hflow
 have hr:Region.ready .any ops listed=[i]:=by
  have:=hflow.1
  split at this
  ·rename_i k hk;rw[hk,Nat.eq_of_beq_eq_true this]
  ·cases this
 refine ⟨fun h0=>(by rw[h0]at hr;cases hr),fun k hk=>?_⟩
 rw[hr]at hk
 obtain rfl:k=i:=by simpa using hk
 have nor:∀ {p:Prop} {a':Act} {w':World},((p∧(k≠last→C w')∧AQXL last P ops X C R ord a' w')∨X.at .normal a' w')→(k≠last→C w')∧ACXL last P ops X C R ord.length (listed.setIfInBounds k true) a' w':=by
  rintro p a' w' (⟨-,h1,h2⟩ | h)
  ·exact ⟨h1,h2 _ hs hx hflow.2⟩
  ·exact h.elim
 have pan:∀ {c:List PanicEntry} {a':Act} {w':World},((Exit.panic c=Exit.normal∧(k≠last→C w')∧AQXL last P ops X C R ord a' w')∨X.at (.panic c) a' w')→X.at (.panic c) a' w':=by
  rintro c a' w' (⟨h,-⟩ | h)
  ·cases h
  ·exact h
 unfold WNX wpOpIn
 simp only[ho.eq]
 simp only[WL,wpListIn]at h
 split
 ·rename_i hw
  rw[if_pos hw]at h
  refine ⟨fun _ _=>trivial,?_⟩
  have h:=h.2
  generalize (o.semAt (FW none).round a.eval).run P w=q at *
  cases q with
  | ok x w'=>
   cases x <;> simp only[Oper.uponIn]at h⊢
   case value u=>exact nor h
   case skip=>exact nor h
   case defer d=>exact nor h
   case enter f args=>
    refine ⟨h.1,CallsIn.mono h.2 fun e w'' he=>?_⟩
    cases e with
    | returned u=>simp only[true_and]at he;exact nor (p:=True) (by simpa using he)
    | panicked c=>exact pan he
    | outgrown=>obtain ⟨_,_,he⟩:=he;rcases he with ⟨he,_⟩ | he <;> first | cases he | exact he.elim
   case row row args=>exact ⟨h.1,RowsIn.mono h.2 fun u w'' he=>nor he⟩
   case round l f tmps assign body=>
    refine ⟨h.1,RoundIn.mono h.2 fun e w'' he=>?_⟩
    cases e with
    | returned u=>simp only[true_and]at he;exact nor (p:=True) (by simpa using he)
    | panicked c=>exact pan he
    | outgrown=>obtain ⟨_,_,he⟩:=he;rcases he with ⟨he,_⟩ | he <;> first | cases he | exact he.elim
  | halt x w'=>
   cases x <;> simp only[Oper.uponIn]at h⊢
   case panic u=>exact pan h
 ·rename_i hw
  rw[if_neg hw]at h
  exact ⟨fun _ _=>trivial,nor h.2⟩
theorem deXL [hb:SubL bs0 bs] [hf:SubL fs0 fs] (S:St w0 M0 ds a w l bs fs) (h:AQXL last P ops X (fun w=>Wd w0 M0 w bs0 fs0) R ord a w):WL P none ops (fun e a' w'=>(e=.normal∧(i≠last→Wd w0 M0 w' bs0 fs0)∧AQXL last P ops X (fun w=>Wd w0 M0 w bs0 fs0) R ord a' w')∨X.at e a' w') [] a w:=
 kN (.inl ⟨rfl,fun _=>S.wd.sub hb.sub hf.sub,h⟩)
theorem dzXL {C:World→Prop} (h:R a w) (hr:∀ listed,Region.noSelect ops=true→flowFromL last ops [] listed=true→Region.ready .any ops listed=[]:=by intro listed _ h;simpa [flowFromL] using h):WL P none ops (fun e a' w'=>(e=.normal∧(last≠last→C w')∧AQXL last P ops X C R [] a' w')∨X.at e a' w') [] a w:=
 kN (.inl ⟨rfl,fun h=>absurd rfl h,fun listed hs _ hf=>⟨hr listed hs hf,h⟩⟩)
theorem any_of_acxl (hQ:∀ ch a w,X.at (.panic ch) a w→Q (.panic ch) a w) (hd:∀ (i:Nat) o,ops[i]? = some o→isDefer o.op=false):∀ (fuel:Nat) (listed:Array Bool) (a:Act) (w:World),ACXL last P ops X C (fun a w=>Q .normal a w) fuel listed a w→wpAnyIn (FW r) 0 P .any ops Q fuel listed a w
 | 0,_,_,_,h=>h
 | fuel+1,_,_,_,h=>⟨h.1,fun i hi=>wnx_round hQ hd (wpOpIn_mono (fun a' w' h'=>any_of_acxl hQ hd fuel _ a' w' h'.2) (h.2 i hi))⟩
theorem c_drawXL {id:Nat} {lo:List Oper} (last:Nat) (ord:List (Nat × Bool)) (bs0:List Item) (X:XP) (S:St w0 M0 ds a w l bs fs) (hQ:∀ ch a w,X.at (.panic ch) a w→Q (.panic ch) a w)
  (h:∀ w,St w0 M0 ds a w l bs fs→AQXL last P lo.toArray X (fun w=>Wd w0 M0 w bs0 fs) (fun a w=>Q .normal a w) ord a w)
  (hm:P.follows .mixedOrders=true:=by kernel_rfl) (hx:X.offB lo.toArray=true:=by kernel_rfl) (hd:((lo.all fun o=>!isDefer o.op)&&(Nat.beq ord.length lo.length&&(Region.noSelect lo.toArray&&flowFromL last lo.toArray ord (Array.replicate lo.length false))))=true:=by kernel_rfl):Wp P r (.region id lo.toArray true) Q a w:=by
 simp only[Bool.and_eq_true]at hd
 refine wpIn_region_any hm (any_of_acxl (last:=last) (C:=fun w=>Wd w0 M0 w bs0 fs) hQ (fun i o ho=>?_) _ _ _ _ ?_)
 have:=List.all_eq_true.1 hd.1 o (by
  rw[List.getElem?_toArray]at ho
  exact List.mem_of_getElem? ho)
 simpa using this
 have:=h { w with drawn:=w.drawn+1 } ⟨S.slots,S.defers,S.wd.step (Agree.drawn _ w _)⟩ _ hd.2.2.1 hx hd.2.2.2
 rw[Nat.eq_of_beq_eq_true hd.2.1]at this
 simpa using this
end
section
variable {P:Program} {r:Option Nat} {ops:Array Oper} {Q:Exit→Act→World→Prop} {w0:World} {M0:Nat→Prop} {ds:List Deferred} {a:Act} {w:World} {l:List Value} {bs bs':List Item} {fs:List (World→Prop)}
 {d:Option Nat} {ty:TypeId} {pos:String} {af:Array Edge} {rest:List Oper} {f:Nat} {x:Operand} {ys:List Operand} {args:List Value} {ts:Array TypeId}
theorem xtp {next:Act→World→Prop} {ch:List PanicEntry} (h:Q (.panic ch) a w):Exit.then next Q (.panic ch) a w:=h
theorem xbp {id:Nat} {ch:List PanicEntry} (h:Q (.panic ch) a w):Exit.inBlock id Q (.panic ch) a w:=h
abbrev noI:Item:=ext fun _=>False
theorem sitMP {l':Value→List Value} (it:Item) [EntF P f] [CallTo ⟨[],l⟩ x ys f args] [hp:∀ v,PutO l d v (l' v)] (S:St w0 M0 ds a w l bs fs) {R:Value→World→Prop} {X:List PanicEntry→World→Prop} (hc:RetP P f args w it.foot R X) (ho:it.own=true)
  (Kp:∀ ch w',X ch w'→(∀ {bs':List Item} [ReplI bs it noI bs'],St w0 M0 ds a w' l bs' fs)→Q (.panic ch) a w')
  (K:∀ v a w',R v w'→(∀ (y:Item) (fs2:List (World→Prop)) {fs3:List (World→Prop)} {bs':List Item} [AppL fs2 fs fs3] [ReplI bs it y bs'] [ItOk y],y.holds w'→(∀ k,y.foot k→it.foot k∨w.heap.size≤k)→(∀ Φ∈fs2,Stable (fun k=>y.foot k∨restOf bs it k) w' Φ)→St w0 M0 ds a w' (l' v) bs' fs3)→WL P r ops Q rest a w') :
  WL P r ops Q (⟨d,.call { callee:=.value x,args:=ys.toArray,argTypes:=ts },ty,pos,af,none⟩::rest) a w:=by
 have hap:=S.wd.apart
 refine cv_anyP S hc ?_
 rintro e w' (⟨v,rfl,ha,hR⟩ | ⟨ch,rfl,ha,hX⟩)
 ·have:=hp v
  have S':=S.put (d:=d) (v:=v)
  refine .inl ⟨v,rfl,K v _ w' hR fun y fs2 fs3 bs' happ hr oy hy hf hfs=>?_⟩
  have hS:St w0 M0 ds (a.put d v) w' (l' v) bs' fs:=⟨S'.slots,S'.defers,by
   obtain ⟨pre,post,q1,q2⟩:=hr.ex
   have hwd:=S'.wd
   rw[q1]at hwd
   rw[q2]
   exact hwd.swap ho ha hy hf (oy.lt w' hy) oy.loc⟩
  rw[←happ.eq]
  refine hS.addAll fs2 fun Φ hΦ=>(hfs Φ hΦ).less fun k _ hk=>?_
  obtain ⟨pre,post,rfl,rfl⟩:=hr.ex
  obtain ⟨z,hz,hk⟩:=hk
  have hp:=List.pairwise_append.1 hap
  rcases List.mem_append.1 hz with hz | hz
  ·exact .inr ⟨⟨z,by simp[hz],hk⟩,hp.2.2 z hz it (by simp) k hk⟩
  ·rcases List.mem_cons.1 hz with rfl | hz
   ·exact .inl hk
   ·exact .inr ⟨⟨z,by simp[hz],hk⟩,fun hx=>(List.pairwise_cons.1 hp.2.1).1 z hz k hx hk⟩
 ·refine .inr ⟨ch,rfl,Kp ch w' hX fun {bs'} hr=>⟨S.slots,S.defers,?_⟩⟩
  obtain ⟨pre,post,q1,q2⟩:=hr.ex
  have hwd:=S.wd
  rw[q1]at hwd
  rw[q2]
  exact hwd.swap ho ha trivial (fun _ h=>h.elim) (fun _ h=>h.elim) (fun _ _ _ _=>trivial)
end
end Go.Wk
namespace Go.Proofs.YtdakncgafdnjfaaGreat
open Go Go.Wk
set_option synthInstance.maxSize 100000
set_option synthInstance.maxHeartbeats 400000
set_option maxRecDepth 100000
instance:StT Tryz.prog 247:=⟨⟨_,Tryz.underlying247⟩⟩
instance:IfT Tryz.prog 20:=⟨by kernel_rfl⟩
abbrev wrongE (e:Int):Value:=.iface 247 (.agg ⟨[.int .i64 e]⟩)
abbrev tmI (h rd:Nat) (left:Int):Wk.Item:=Wk.box h 245 [.pointer (some ⟨rd,0,none⟩),.int .i64 left]
abbrev rtI (h rd:Nat) (left:Int) (r:RS):Wk.Item:=both (tmI h rd left) (rdI rd r)
theorem needR_c (h rd:Nat) (left:Int) (r:RS) (b:Bool) (w0:World) (f1:Stable (fun _=>False) w0 (BoxF h 245 [.pointer (some ⟨rd,0,none⟩),.int .i64 left])) (f2:Stable (fun _=>False) w0 (BoxF rd 238 (cRS r))) :
  RetP Tryz.prog 234 [.pointer (some ⟨h,0,none⟩),.bool b] w0 (fun _=>False) (fun _ _=>r.why=0∧b=true) (fun ch _=>∃ e,ch=pch (wrongE e)∧((r.why≠0∧e=7)∨(r.why=0∧b=false∧e=150))):=by
 refine enter Tryz.func234 rfl rfl (Wd.begin (fs:=[BoxF h 245 [.pointer (some ⟨rd,0,none⟩),.int .i64 left],BoxF rd 238 (cRS r)]) (by simp;exact ⟨f1,f2⟩)) (fun a S=>?_)
 simp only[Tryz.ntmps234,qqA,qqB,Nat.reduceAdd,Nat.reduceSub,qqC,qqD,qqE,qqF]at S
 refine kB (kS (kR ?_));(iterate 4 (refine sq S ?_;clear S;intro a S));refine sr S (errR_c rd r _ (S.mem.fact0 (BoxF rd 238 (cRS r)))) ?_;clear S;rintro _ a w rfl S;(iterate 2 (refine sq S ?_;clear S;intro a S));refine kN (xtn ?_)
 refine kC S (fun h0=>?_) (fun h0=>?_)
 refine kR ?_;(iterate 2 (refine sq S ?_;clear S;intro a S))
 refine sPan S (fun S=>?_)
 refine xbp ?_;refine endX S ?_
 exact ⟨7,rfl,.inl ⟨by simpa using h0,rfl⟩⟩
 refine kS (kR ?_);(iterate 3 (refine sq S ?_;clear S;intro a S));refine kN (xtn ?_)
 refine kC S (fun h2=>?_) (fun h2=>?_)
 refine kR ?_;(iterate 2 (refine sq S ?_;clear S;intro a S))
 refine sPan S (fun S=>?_)
 refine xbp ?_;refine endX S ?_
 exact ⟨150,rfl,.inr ⟨by simpa using h0,by simpa using h2,rfl⟩⟩
 refine kK (xbn ?_)
 refine endP (end0 S (fun _=>?_))
 exact ⟨by simpa using h0,by simpa using h2⟩
structure SubR (r r':RS):Prop where
 gl:r.bs.length≤r.c→∀ w,GlF r.p r.bs w→GlF r'.p r'.bs w
 len:r'.bs.length≤r.bs.length
 cap:r.bs.length≤r.c→r'.bs.length≤r'.c
theorem SubR.refl (r:RS):SubR r r:=⟨fun _ _ h=>h,Nat.le_refl _,id⟩
theorem SubR.trans {a b c:RS} (h:SubR a b) (k:SubR b c):SubR a c:=⟨fun hc w hw=>k.gl (h.cap hc) w (h.gl hc w hw),Nat.le_trans k.len h.len,fun hc=>k.cap (h.cap hc)⟩
theorem SubR.take (r:RS) (k:Nat):SubR r (takeR r k):=by
 refine ⟨fun hc w hw=>?_,takeR_len r k,fun hc=>takeR_cap hc⟩
 unfold takeR;split
 exact hw.drop (sz:=1) k hc
 exact hw
theorem take1_ok {r:RS} (h:r.why=0) (hk:(takeR r 1).why=0):∃ c t,r.bs=c::t∧numN (tookR r 1) 0=c.toNat∧(takeR r 1).bs=t:=by
 by_cases ho:okR r 1
 have hl:=ho.2
 match hb:r.bs with
 | []=>rw[hb]at hl;simp at hl
 | c::t=>exact ⟨c,t,rfl,by rw[tookR_yes ho,hb];simp[numN],by rw[takeR_yes ho,hb];rfl⟩
 rw[takeR_no ho,if_pos h]at hk;cases hk
theorem take1_bad {r:RS} (h:r.why=0) (hk:(takeR r 1).why≠0):r.bs=[]:=by
 by_cases ho:okR r 1
 rw[takeR_yes ho]at hk;exact absurd rfl hk
 match hb:r.bs with
 | []=>rfl
 | c::t=>exact absurd ⟨h,by rw[hb];simp⟩ ho
theorem take_ok {r:RS} {k:Nat} (h:r.why=0) (hk:(takeR r k).why=0):k≤r.bs.length∧tookR r k=r.bs.take k∧(takeR r k).bs=r.bs.drop k:=by
 by_cases ho:okR r k
 exact ⟨ho.2,tookR_yes ho,by rw[takeR_yes ho]⟩
 rw[takeR_no ho,if_pos h]at hk;cases hk
theorem take_bad {r:RS} {k:Nat} (h:r.why=0) (hk:(takeR r k).why≠0):r.bs.length < k:=by
 by_cases ho:okR r k
 rw[takeR_yes ho]at hk;exact absurd rfl hk
 rcases Nat.lt_or_ge r.bs.length k with h1 | h1
 exact h1
 exact absurd ⟨h,h1⟩ ho
def preD (ts:List Term):DecE (List Term × Nat × List UInt8)→DecE (List Term × Nat × List UInt8)
 | .error e=>.error e
 | .ok (us,left,bs)=>.ok (ts++us,left,bs)
theorem preD_nil (x:DecE (List Term × Nat × List UInt8)):preD [] x=x:=by
 cases x <;> rfl
theorem kidsD_step (f:Nat→List UInt8→DecE (Term × Nat × List UInt8)) (ts:List Term) (j left:Nat) (bs:List UInt8) (t:Term) (left':Nat) (bs':List UInt8) (h:f left bs=.ok (t,left',bs')) :
  preD ts (kidsD f (j+1) left bs)=preD (ts++[t]) (kidsD f j left' bs'):=by
 rw[kidsD,h]
 show preD ts (match kidsD f j left' bs' with | .error e=>.error e | .ok (us,l,b)=>.ok (t::us,l,b))=_
 cases kidsD f j left' bs' with
 | error e=>rfl
 | ok x=>obtain ⟨us,l,b⟩:=x;simp[preD]
theorem kidsD_bad (f:Nat→List UInt8→DecE (Term × Nat × List UInt8)) (ts:List Term) (j left:Nat) (bs:List UInt8) (e:Int) (h:f left bs=.error e):preD ts (kidsD f (j+1) left bs)=.error e:=by
 rw[kidsD,h];rfl
variable {f:Nat→List UInt8→DecE (Term × Nat × List UInt8)} {left:Nat} {k e:Int} {bs b2 b3 b4:List UInt8} {s:List UInt8} {u n:Int}
theorem decB_text (h:textD k bs=.error e):decB f left k bs=.error e:=by rw[decB,h]
theorem decB_user (h:textD k bs=.ok (s,b2)) (h2:userD k b2=.error e):decB f left k bs=.error e:=by rw[decB,h];simp only[h2]
theorem decB_num (h:textD k bs=.ok (s,b2)) (h2:userD k b2=.ok (u,b3)) (h3:numD k b3=.error e):decB f left k bs=.error e:=by rw[decB,h];simp only[h2,h3]
theorem decB_kids (h:textD k bs=.ok (s,b2)) (h2:userD k b2=.ok (u,b3)) (h3:numD k b3=.ok (n,b4)) (h4:kidsD f (kidsN k) (left - 1) b4=.error e):decB f left k bs=.error e:=by rw[decB,h];simp only[h2,h3,h4]
theorem decB_ok {ks:List Term} {l:Nat} {b5:List UInt8} (h:textD k bs=.ok (s,b2)) (h2:userD k b2=.ok (u,b3)) (h3:numD k b3=.ok (n,b4)) (h4:kidsD f (kidsN k) (left - 1) b4=.ok (ks,l,b5)):decB f left k bs=.ok (.mk k u n s ks,l,b5):=by rw[decB,h];simp only[h2,h3,h4]
theorem textD_none (h:hasF (fieldsOf k) 1=false):textD k bs=.ok ([],bs):=by unfold textD;rw[if_neg (by rw[h];simp)]
theorem textD_nil (h:hasF (fieldsOf k) 1=true):textD k []=.error 7:=by rw[textD,if_pos h]
theorem textD_long (h:hasF (fieldsOf k) 1=true) {c:UInt8} (hc:64 < c.toNat):textD k (c::bs)=.error 150:=by rw[textD,if_pos h];simp[hc]
theorem textD_short (h:hasF (fieldsOf k) 1=true) {c:UInt8} (hc:¬64 < c.toNat) (hl:bs.length < c.toNat):textD k (c::bs)=.error 7:=by rw[textD,if_pos h];simp[hc,hl]
theorem textD_ok (h:hasF (fieldsOf k) 1=true) {c:UInt8} (hc:¬64 < c.toNat) (hl:¬bs.length < c.toNat):textD k (c::bs)=.ok (bs.take c.toNat,bs.drop c.toNat):=by rw[textD,if_pos h];simp[hc,hl]
theorem userD_none (h:hasF (fieldsOf k) 2=false):userD k bs=.ok (0,bs):=by unfold userD;rw[if_neg (by rw[h];simp)]
theorem userD_nil (h:hasF (fieldsOf k) 2=true):userD k []=.error 7:=by rw[userD,if_pos h]
theorem userD_ok (h:hasF (fieldsOf k) 2=true) {c:UInt8} (hc:1≤c.toNat∧c.toNat≤6):userD k (c::bs)=.ok ((c.toNat:Int),bs):=by rw[userD,if_pos h];simp[hc]
theorem userD_bad (h:hasF (fieldsOf k) 2=true) {c:UInt8} (hc:¬(1≤c.toNat∧c.toNat≤6)):userD k (c::bs)=.error 150:=by rw[userD,if_pos h];simp only[if_neg hc]
theorem numD_none (h:hasF (fieldsOf k) 4=false):numD k bs=.ok (0,bs):=by rw[numD,if_neg (by rw[h];simp)]
theorem numD_bad (h:hasF (fieldsOf k) 4=true) (hl:bs.length < 2):numD k bs=.error 7:=by rw[numD,if_pos h,if_pos hl]
theorem numD_ok (h:hasF (fieldsOf k) 4=true) (hl:¬bs.length < 2):numD k bs=.ok ((numN (bs.take 2) 0:Int),bs.drop 2):=by rw[numD,if_pos h,if_neg hl]
theorem kidsN_int (k:Int):kidsF (fieldsOf k)=((kidsN k:Nat):Int)∧kidsN k≤2:=by
 unfold kidsN kidsF
 split
 exact ⟨rfl,by decide⟩
 split
 exact ⟨rfl,by decide⟩
 exact ⟨rfl,by decide⟩
end Go.Proofs.YtdakncgafdnjfaaGreat
namespace Go.Proofs.YtdakncgafdnjfaaGreat
open Go Go.Wk
set_option synthInstance.maxSize 100000
set_option synthInstance.maxHeartbeats 400000
set_option maxRecDepth 100000
theorem fields_kind {k:Int} (h:fieldsOf k≠0):1≤k∧k≤8:=by
 unfold fieldsOf at h
 repeat (split at h;· omega)
 exact absurd rfl h
theorem u8_natD {n:Int} (h:0≤n∧n≤255):((Wk.u8 n).toNat:Int)=n:=by
 rw[←u8_wrap]
 unfold IntKind.wrap
 simp only[IntKind.bits,IntKind.signed,Bool.false_and]
 simp;omega
theorem u8_lenD {l:Nat} (h:l≤255):(Wk.u8 (l:Int)).toNat=l:=by
 have:=u8_natD (n:=(l:Int)) (by omega)
 omega
theorem be2_numD {n:Int} (h:0≤n∧n≤65535):(numN (be 2 n) 0:Int)=n:=by
 have e:be 2 n=[Wk.u8 (n.fdiv (2 ^ 8)),Wk.u8 (n.fdiv (2 ^ 0))]:=rfl
 have h1:n.fdiv (2 ^ 8)=n / 256:=by rw[Int.fdiv_eq_ediv_of_nonneg _ (by decide)];rfl
 have h0:n.fdiv (2 ^ 0)=n:=by rw[Int.fdiv_eq_ediv_of_nonneg _ (by decide)];simp
 have h3:=u8_natD (n:=n / 256) (by omega)
 have h4:((Wk.u8 n).toNat:Int)=n % 256:=by
  rw[←u8_wrap]
  unfold IntKind.wrap
  simp only[IntKind.bits,IntKind.signed,Bool.false_and]
  simp
 rw[e,h1,h0]
 simp only[numN,List.foldl_cons,List.foldl_nil]
 push_cast
 rw[h3,h4]
 omega
structure PlainOk (k u n:Int) (s:List UInt8) (m:Nat):Prop where
 kind:fieldsOf k≠0
 kids:(m:Int)=kidsF (fieldsOf k)
 short:s.length≤64
 text:hasF (fieldsOf k) 1=false→s=[]
 user:hasF (fieldsOf k) 2=true→1≤u∧u≤6
 nouser:hasF (fieldsOf k) 2=false→u=0
 num:hasF (fieldsOf k) 4=true→0≤n∧n≤65535
 nonum:hasF (fieldsOf k) 4=false→n=0
theorem plain_ok {k u n:Int} {s:List UInt8} {m:Nat} (h:plainF k u n s m=true):PlainOk k u n s m:=by
 simp only[plainF,knownF,Bool.and_eq_true,Bool.or_eq_true,Bool.not_eq_true',decide_eq_true_eq,decide_eq_false_iff_not]at h
 obtain ⟨⟨⟨⟨⟨h1,h2⟩,h3⟩,h4⟩,h5⟩,h6⟩:=h
 refine ⟨h1,h2,by omega,fun e=>?_,fun e=>?_,fun e=>?_,fun e=>?_,fun e=>?_⟩
 rcases h4 with h | h
 rw[e]at h;cases h
 exact h
 rcases h5 with h | h
 exact h.2
 rw[e]at h;cases h.1
 rcases h5 with h | h
 rw[e]at h;cases h.1
 exact h.2
 rcases h6 with h | h
 exact ⟨h.1.2,h.2⟩
 rw[e]at h;cases h.1
 rcases h6 with h | h
 rw[e]at h;cases h.1.1
 exact h.2
theorem text_back {k u n:Int} {s:List UInt8} {m:Nat} (h:PlainOk k u n s m) (X:List UInt8):textD k (put1 k s++X)=.ok (s,X):=by
 cases hf:hasF (fieldsOf k) 1 with
 | false=>rw[put1,hf,h.text hf];exact textD_none hf
 | true=>
  have hs:=h.short
  have hl:=u8_lenD (l:=s.length) (by omega)
  rw[put1,if_pos hf,qqE,textD_ok hf (by rw[hl];omega) (by rw[hl,List.length_append];omega),hl,List.take_left,List.drop_left]
theorem user_back {k u n:Int} {s:List UInt8} {m:Nat} (h:PlainOk k u n s m) (X:List UInt8):userD k (put2 k u++X)=.ok (u,X):=by
 cases hf:hasF (fieldsOf k) 2 with
 | false=>rw[put2,hf,h.nouser hf];exact userD_none hf
 | true=>
  have hu:=h.user hf
  have hl:=u8_natD (n:=u) (by omega)
  rw[put2,if_pos hf,qqE,qqF,userD_ok hf (by omega),hl]
theorem num_back {k u n:Int} {s:List UInt8} {m:Nat} (h:PlainOk k u n s m) (X:List UInt8):numD k (put4 k n++X)=.ok (n,X):=by
 cases hf:hasF (fieldsOf k) 4 with
 | false=>rw[put4,hf,h.nonum hf];exact numD_none hf
 | true=>
  have hn:=h.num hf
  have hw:IntKind.u16.wrap n=n:=by
   unfold IntKind.wrap
   simp only[IntKind.bits,IntKind.signed,Bool.false_and]
   simp;omega
  have hl:(be 2 n).length=2:=by simp[be]
  rw[put4,if_pos hf,hw,numD_ok hf (by rw[List.length_append];omega),List.take_left' hl,List.drop_left' hl,be2_numD hn]
mutual
theorem dec_back:∀ (t:Term) (m:Nat) (left:Nat) (X:List UInt8),m≤60→(walkF t (61 - (m:Int)) (left:Int)).1=true→decT m left (bytesF t++X)=.ok (t,(walkF t (61 - (m:Int)) (left:Int)).2.toNat,X)
 | .mk k u n s ks,m,left,X=>by
  intro hm h
  rw[walkF]at h⊢
  split at h
  cases h
  rename_i hc
  rw[if_neg hc]
  have hc':0 < left∧0 < m∧plainF k u n s ks.length=true:=by
   refine ⟨by omega,by omega,?_⟩
   cases hp:plainF k u n s ks.length with
   | true=>rfl
   | false=>exact absurd (.inr (.inr hp)) hc
  obtain ⟨hl,hm0,hp⟩:=hc'
  have hok:=plain_ok hp
  have hk:=fields_kind hok.kind
  have hk8:=u8_natD (n:=k) (by omega)
  rw[bytesF,headF]
  simp only[List.append_assoc,qqE,qqF]
  rw[decT_cons,hk8,if_neg (by have:=hok.kind;omega)]
  have hkn:kidsN k=ks.length:=by
   have h1:=(kidsN_int k).1
   have h2:=hok.kids
   omega
  rw[show (61:Int) - (m:Int)+1=61 - ((m - 1:Nat):Int) from by omega,show (left:Int) - 1=((left - 1:Nat):Int) from by omega]at h⊢
  refine decB_ok (text_back hok _) (user_back hok _) (num_back hok _) ?_
  rw[hkn]
  exact decL_back ks (m - 1) (left - 1) X (by omega) h
theorem decL_back:∀ (ts:List Term) (m:Nat) (left:Nat) (X:List UInt8),m≤60→(walkLF ts (61 - (m:Int)) (left:Int)).1=true→kidsD (decT m) ts.length left (bytesLF ts++X)=.ok (ts,(walkLF ts (61 - (m:Int)) (left:Int)).2.toNat,X)
 | [],m,left,X=>by
  intro _ _
  simp[kidsD,walkLF,bytesLF]
 | t::ts,m,left,X=>by
  intro hm h
  rw[walkLF]at h⊢
  split at h
  rename_i hc
  rw[if_pos hc]
  have h0:=walkF_ge t _ _ (by omega) hc
  have e:(walkF t (61 - (m:Int)) (left:Int)).2=(((walkF t (61 - (m:Int)) (left:Int)).2.toNat:Nat):Int):=by omega
  rw[e]at h
  have h1:=dec_back t m left (bytesLF ts++X) hm hc
  have h2:=decL_back ts m _ X hm h
  rw[bytesLF,List.append_assoc,qqA,kidsD,h1]
  simp only[h2]
  rw[←e]
  cases h
end
theorem dec_name {t:Term} (h:checkF t=0):∃ left,decT 60 1200 (nameF t)=.ok (t,left,[]):=by
 have hs:sizeF t≠0:=fun e=>by rw[checkF,if_pos e]at h;cases h
 have hw:(walkF t 1 1200).1=true:=by
  cases hw:(walkF t 1 1200).1 with
  | true=>rfl
  | false=>rw[sizeF,hw]at hs;simp at hs
 have:=dec_back t 60 1200 [] (Nat.le_refl _) hw
 rw[List.append_nil]at this
 rw[nameF,if_neg hs]
 exact ⟨_,this⟩
abbrev RB:=List UInt8 × Bool
def tkB (k:Nat) (x:RB):List UInt8 × RB:=if x.2=false∧k≤x.1.length then (x.1.take k,(x.1.drop k,false)) else ([],(x.1,true))
def RS.ab (r:RS):RB:=(r.bs,!decide (r.why=0))
theorem tk_ab (r:RS) (k:Nat):tookR r k=(tkB k r.ab).1∧(takeR r k).ab=(tkB k r.ab).2:=by
 by_cases h:okR r k
 have h2:r.ab.2=false∧k≤r.ab.1.length:=⟨by simp[RS.ab,h.1],h.2⟩
 rw[tookR_yes h,takeR_yes h,tkB,if_pos h2]
 exact ⟨rfl,rfl⟩
 have h2:¬(r.ab.2=false∧k≤r.ab.1.length):=fun h3=>h ⟨by simpa [RS.ab] using h3.1,h3.2⟩
 rw[tookR_no h,takeR_no h,tkB,if_neg h2]
 refine ⟨rfl,?_⟩
 by_cases hw:r.why=0
 simp[RS.ab,hw]
 simp[RS.ab,hw]
theorem tkB_bad (k:Nat) (l:List UInt8):tkB k (l,true)=([],(l,true)):=by rw[tkB,if_neg (by simp)]
theorem tkB_ok {k:Nat} {l X:List UInt8} (h:l.length=k):tkB k (l++X,false)=(l,(X,false)):=by
 subst h
 rw[tkB,if_pos ⟨rfl,by rw[List.length_append];omega⟩,List.take_left,List.drop_left]
theorem tkB_good {k:Nat} {x:RB} (h:(tkB k x).2.2=false):x.2=false:=by
 obtain ⟨l,b⟩:=x
 cases b with
 | false=>rfl
 | true=>rw[tkB_bad]at h;cases h
theorem tkB_ext {k:Nat} {l:List UInt8} (X:List UInt8) (h:(tkB k (l,false)).2.2=false):tkB k (l++X,false)=((tkB k (l,false)).1,((tkB k (l,false)).2.1++X,false)):=by
 by_cases hk:k≤l.length
 rw[tkB,if_pos ⟨rfl,by rw[List.length_append];omega⟩,tkB,if_pos ⟨rfl,hk⟩,List.take_append_of_le_length hk,List.drop_append_of_le_length hk]
 rw[tkB,if_neg (fun h=>hk h.2)]at h;cases h
theorem own_capT {w:World} {e:TypeId} {sz:Nat} {p:Option Addr} {n c:Nat} {xs:List Value} (h:w.ownsRow 0 e sz (.slice p n c) n xs):c≤maxLen:=by
 rcases h.2 with ⟨hv,h0⟩ | ⟨g,cap,cur,hv,hb,hg,hnc,hcm,hcs,ht⟩
 cases hv;exact Nat.zero_le _
 cases hv;exact hcm
def DecR (Mr:Nat→Prop) (h rd m left:Nat) (r:RS) (v:Value) (w:World):Prop:=∃ (z:LTerm) (left':Nat) (r':RS),v=vL z∧decT m left r.bs=.ok (z.t,left',r'.bs)∧left'≤left∧r'.why=0∧SubR r r'∧
 (rtI h rd (left':Nat) r').holds w∧Stable (fun k=>(rtI h rd (left':Nat) r').foot k∨Mr k) w (LtF z)
def DecX (m left:Nat) (r:RS) (ch:List PanicEntry):Prop:=∃ e,ch=pch (wrongE e)∧decT m left r.bs=.error e
theorem rterm_c0 (N:Nat):∀ (m h rd left:Nat) (r:RS) (Mr:Nat→Prop) (w0:World),m < N→m≤60→left≤1200→r.why=0→r.bs.length≤r.c→r.bs.length≤10000000→(∀ k,Mr k→k < w0.heap.size∧¬(rtI h rd (left:Nat) r).foot k)→(rtI h rd (left:Nat) r).holds w0→Stable (fun k=>(rtI h rd (left:Nat) r).foot k∨Mr k) w0 (GlF r.p r.bs)→
  RetP Tryz.prog 169 [.pointer (some ⟨h,0,none⟩),.int .i64 (61 - (m:Nat):Int)] w0 (rtI h rd (left:Nat) r).foot (fun v w'=>DecR Mr h rd m left r v w') (fun ch _=>DecX m left r ch):=by
 induction N with
 | zero=>intro m _ _ _ _ _ _ h;exact absurd h (Nat.not_lt_zero _)
 | succ N ih=>
 intro m h rd left r Mr w0 hmN hm hleft hw hc hl hMr hd hf
 refine enter Tryz.func169 rfl rfl (Wd.it2LentM (x:=tmI h rd (left:Nat)) (y:=rdI rd r) (Mr:=Mr) (fs:=[GlF r.p r.bs]) hd rfl rfl hMr (by simpa using hf)) (fun a S=>?_)
 simp only[Tryz.ntmps169,qqA,qqB,Nat.reduceAdd,Nat.reduceSub,qqC,qqD,qqE,qqF]at S
 refine kS (kR ?_);refine sa S ?_;clear S;intro b4 a w S;refine kN (xtn (kS (kR ?_)));(iterate 4 (refine sq S ?_;clear S;intro a S))
 refine sit (rdI rd r) S (u8R_c rd r _ hc hl (S.it (rdI rd r)) (S.lend (rdI rd r) (S.mem.fact (GlF r.p r.bs)))) rfl ?_;clear S;rintro _ a w ⟨rfl,hh⟩ hS
 have S:=hS (rdI rd (takeR r 1)) hh (fun k h=>.inl h)
 clear hS
 obtain ⟨kd,hkd⟩:∃ kd,kd=numN (tookR r 1) 0:=⟨_,rfl⟩
 rw[←hkd]at S
 have hkl:kd < 256:=by rw[hkd];exact (took_num r 1 (by decide)).2
 refine sq S ?_;clear S;intro a S
 rw[w64 (kd:Int) (by omega) (by omega)]at S
 refine sq S ?_;clear S;intro a S;refine sa S ?_;clear S;intro b5 a w S;refine sw S ?_;clear S;intro a w S;refine kN (xtn (kS (kR ?_)));(iterate 2 (refine sq S ?_;clear S;intro a S));refine sc S ?_;clear S;intro a w S;refine sq S ?_;clear S;intro a S;refine kN (xtn (kS (kR ?_)));(iterate 5 (refine sq S ?_;clear S;intro a S))
 rw[w64 ((left:Int) - 1) (by omega) (by omega)]at S
 replace S:=S.add (Φ:=GlF (takeR r 1).p (takeR r 1).bs) (takeR_gl hc (S.mem.fact (GlF r.p r.bs)))
 have hsub1:SubR r (takeR r 1):=SubR.take r 1
 (iterate 2 (refine sq S ?_;clear S;intro a S));refine sw S ?_;clear S;intro a w S;refine kN (xtn (kS (kR ?_)));(iterate 4 (refine sq S ?_;clear S;intro a S));(iterate 5 (refine gQ S ?_;clear S;intro a S));(iterate 2 (refine sq S ?_;clear S;intro a S));(iterate 2 (refine gQ S ?_;clear S;intro a S));refine sq S ?_;clear S;intro a S
 refine srP S (needR_c h rd ((left:Int) - 1) (takeR r 1) _ w (BoxF.stable (S.box h) (fun h=>h)) (BoxF.stable (S.box rd) (fun h=>h))) (fun ch w' hx S=>?_) ?_
 ·repeat (first | refine xtp ?_ | refine xbp ?_)
  refine endX S ?_
  obtain ⟨e,rfl,(⟨h1,rfl⟩ | ⟨h1,h2,rfl⟩)⟩:=hx
  ·exact ⟨7,rfl,by rw[take1_bad hw h1,decT_nil]⟩
  ·obtain ⟨c,t,hbs,hnum,hr1⟩:=take1_ok hw h1
   refine ⟨150,rfl,?_⟩
   rw[hbs,decT_cons,if_pos]
   rw[hkd,hnum]at h2
   simp only[Bool.and_eq_false_iff,Bool.not_eq_false',decide_eq_true_eq,decide_eq_false_iff_not]at h2
   omega
 clear S;rintro _ a w ⟨hw1,hb⟩ S
 obtain ⟨c,t,hbs,hnum,hr1⟩:=take1_ok hw hw1
 rw[←hkd]at hnum
 simp only[Bool.and_eq_true,Bool.not_eq_true',decide_eq_true_eq,decide_eq_false_iff_not]at hb
 have hdec:decT m left r.bs=decB (decT (m - 1)) left (kd:Int) t:=by
  rw[hbs,decT_cons,if_neg (by rw[←hnum];omega),←hnum]
 obtain ⟨r1,hr1e⟩:∃ r1,r1=takeR r 1:=⟨_,rfl⟩
 rw[←hr1e]at S hw1 hr1 hsub1
 have hc1:=hsub1.cap hc
 have hl1:=hsub1.len
 refine kN (xtn ?_)
 refine c_mrge2 S (fun(r2:RS) (s:List UInt8) uu=>[(7,uu 7),(32,uu 40),(0,uu 41),(0,uu 42),(0,uu 43),(0,uu 44),(0,uu 45),(0,uu 46),(0,uu 47),(0,uu 48),(0,uu 49),(0,uu 50),(0,uu 51),(0,uu 52),(0,uu 53),(0,uu 54),(0,uu 55),(0,uu 56),(0,uu 57),(0,uu 58),(0,uu 59),(0,uu 60),(0,uu 61)]) (fun(r2:RS) (s:List UInt8)=>[Wk.box b5 43 [.int .i64 kd,.int .i64 0,.int .i64 0,str s,.slice none 0 0],tmI h rd ((left:Int) - 1),rdI rd r2,Wk.box b4 43 [.int .i64 0,.int .i64 0,.int .i64 0,.string ⟨#[]⟩,.slice none 0 0],ext Mr]) (fun(r2:RS) (s:List UInt8)=>[GlF r2.p r2.bs]) (fun(r2:RS) (s:List UInt8)=>textD (kd:Int) t=.ok (s,r2.bs)∧r2.why=0∧SubR r1 r2) ?_ ?_
 ·refine kS (kR (sq S ?_));clear S;intro a S;refine sc S ?_;clear S;intro a w S;refine kN (xtn ?_)
  refine kC S (fun h5=>?_) (fun h5=>?_)
  ·refine kS (kR ?_);(iterate 4 (refine sq S ?_;clear S;intro a S))
   refine sit (rdI rd r1) S (u8R_c rd r1 _ hc1 (by omega) (S.it (rdI rd r1)) (S.lend (rdI rd r1) (S.mem.fact (GlF r1.p r1.bs)))) rfl ?_;clear S;rintro _ a w ⟨rfl,hh⟩ hS
   have S:=hS (rdI rd (takeR r1 1)) hh (fun k h=>.inl h)
   clear hS
   obtain ⟨nn,hnn⟩:∃ nn,nn=numN (tookR r1 1) 0:=⟨_,rfl⟩
   rw[←hnn]at S
   have hnl:nn < 256:=by rw[hnn];exact (took_num r1 1 (by decide)).2
   replace S:=S.add (Φ:=GlF (takeR r1 1).p (takeR r1 1).bs) (takeR_gl hc1 (S.mem.fact (GlF r1.p r1.bs)))
   refine sq S ?_;clear S;intro a S
   rw[w64 (nn:Int) (by omega) (by omega)]at S
   refine sq S ?_;clear S;intro a S;refine kN (xtn (kS (kR ?_)));(iterate 3 (refine sq S ?_;clear S;intro a S))
   refine srP S (needR_c h rd ((left:Int) - 1) (takeR r1 1) _ w (BoxF.stable (S.box h) (fun h=>h)) (BoxF.stable (S.box rd) (fun h=>h))) (fun ch w' hx S=>?_) ?_
   ·repeat (first | refine xtp ?_ | refine xbp ?_)
    refine endX S ?_
    obtain ⟨e,rfl,(⟨h1,rfl⟩ | ⟨h1,h2,rfl⟩)⟩:=hx
    ·refine ⟨7,rfl,?_⟩
     rw[hdec,←hr1,take1_bad hw1 h1];exact decB_text (textD_nil h5)
    ·obtain ⟨c2,t2,hb2,hn2,-⟩:=take1_ok hw1 h1
     refine ⟨150,rfl,?_⟩
     rw[hdec,←hr1,hb2]
     refine decB_text (textD_long h5 ?_)
     have:=of_decide_eq_false h2
     omega
   clear S;rintro _ a w ⟨hw1b,hb1⟩ S
   obtain ⟨c2,t2,hb2,hn2,hr2⟩:=take1_ok hw1 hw1b
   rw[←hnn]at hn2
   have hb1:=of_decide_eq_true hb1
   obtain ⟨r1b,hr1b⟩:∃ r1b,r1b=takeR r1 1:=⟨_,rfl⟩
   have hsub1b:SubR r1 r1b:=hr1b▸SubR.take r1 1
   rw[←hr1b]at S hw1b hr2
   have hc1b:=hsub1b.cap hc1
   have hl1b:=hsub1b.len
   refine kN (xtn (kS (kR ?_)));(iterate 5 (refine sq S ?_;clear S;intro a S))
   refine sit (rdI rd r1b) S (rawR_c rd r1b nn _ (by omega) hc1b (by omega) (S.it (rdI rd r1b)) (S.lend (rdI rd r1b) (S.mem.fact (GlF r1b.p r1b.bs)))) rfl ?_;clear S;rintro _ a w ⟨p8,c8,rfl,hh,hf8⟩ hS
   have S:=hS (both (Wk.row 5 1 p8 (tookR r1b nn).length c8 (encL (tookR r1b nn))) (rdI rd (takeR r1b nn))) hh hf8
   clear hS
   replace S:=S.front (both (Wk.row 5 1 p8 (tookR r1b nn).length c8 (encL (tookR r1b nn))) (rdI rd (takeR r1b nn)))
   replace S:=S.ofBoth
   replace S:=S.add (Φ:=GlF (takeR r1b nn).p (takeR r1b nn).bs) (takeR_gl hc1b (S.mem.fact (GlF r1b.p r1b.bs)))
   (iterate 2 (refine sq S ?_;clear S;intro a S));refine sw S ?_;clear S;intro a w S;refine kN (xtn (kR (sq S ?_)));clear S;intro a S
   refine srP S (needR_c h rd ((left:Int) - 1) (takeR r1b nn) _ w (BoxF.stable (S.box h) (fun h=>h)) (BoxF.stable (S.box rd) (fun h=>h))) (fun ch w' hx S=>?_) ?_
   ·repeat (first | refine xtp ?_ | refine xbp ?_)
    refine endX S ?_
    obtain ⟨e,rfl,(⟨h1,rfl⟩ | ⟨h1,h2,rfl⟩)⟩:=hx
    ·refine ⟨7,rfl,?_⟩
     have hsh:=take_bad hw1b h1
     rw[hdec,←hr1,hb2]
     refine decB_text (textD_short h5 (by omega) ?_)
     rw[←hr2,←hn2];exact hsh
    ·cases h2
   clear S;rintro _ a w ⟨hw1c,-⟩ S
   obtain ⟨q1,q2,q3⟩:=take_ok hw1b hw1c
   refine kN (xtn ?_)
   replace S:=((((S.front (ext Mr)).front (Wk.box b4 43 [.int .i64 0,.int .i64 0,.int .i64 0,.string ⟨#[]⟩,.slice none 0 0])).front (rdI rd (takeR r1b nn))).front (tmI h rd ((left:Int) - 1))).front (Wk.box b5 43 [.int .i64 kd,.int .i64 0,.int .i64 0,str (tookR r1b nn),.slice none 0 0])
   refine ⟨takeR r1b nn,tookR r1b nn,S.uu,⟨?_,hw1c,hsub1b.trans (SubR.take r1b nn)⟩,S.sub _ _⟩
   rw[←hr1,hb2,textD_ok h5 (by omega) (by rw[←hr2,←hn2];omega),q2,q3,←hr2,←hn2]
  ·refine kK (xtn ?_)
   rw[show (Value.string ⟨#[]⟩)=str [] from rfl]at S
   replace S:=((((S.front (ext Mr)).front (Wk.box b4 43 [.int .i64 0,.int .i64 0,.int .i64 0,str [],.slice none 0 0])).front (rdI rd r1)).front (tmI h rd ((left:Int) - 1))).front (Wk.box b5 43 [.int .i64 kd,.int .i64 0,.int .i64 0,str [],.slice none 0 0])
   exact ⟨r1,[],S.uu,⟨by rw[←hr1];exact textD_none h5,hw1,SubR.refl r1⟩,S.sub _ _⟩
 ·clear S;rintro r2 s uu a w ⟨htx,hw2,hsub2⟩ S
  have hc2:=hsub2.cap hc1
  have hl2:=hsub2.len
  refine c_mrge2 S (fun(r3:RS) (u:Int) uu=>[(62,uu 62),(0,uu 63),(0,uu 64),(0,uu 65),(0,uu 66),(0,uu 67),(0,uu 68),(0,uu 69),(0,uu 70),(0,uu 71),(0,uu 72),(0,uu 73),(0,uu 74),(0,uu 75)]) (fun(r3:RS) (u:Int)=>[Wk.box b5 43 [.int .i64 kd,.int .i64 u,.int .i64 0,str s,.slice none 0 0],tmI h rd ((left:Int) - 1),rdI rd r3,Wk.box b4 43 [.int .i64 0,.int .i64 0,.int .i64 0,.string ⟨#[]⟩,.slice none 0 0],ext Mr]) (fun(r3:RS) (u:Int)=>[GlF r3.p r3.bs]) (fun(r3:RS) (u:Int)=>userD (kd:Int) r2.bs=.ok (u,r3.bs)∧r3.why=0∧SubR r2 r3) ?_ ?_
  ·refine kS (kR (sq S ?_));clear S;intro a S;refine sc S ?_;clear S;intro a w S;refine kN (xtn ?_)
   refine kC S (fun h10=>?_) (fun h10=>?_)
   ·refine kS (kR ?_);(iterate 4 (refine sq S ?_;clear S;intro a S))
    refine sit (rdI rd r2) S (u8R_c rd r2 _ hc2 (by omega) (S.it (rdI rd r2)) (S.lend (rdI rd r2) (S.mem.fact (GlF r2.p r2.bs)))) rfl ?_;clear S;rintro _ a w ⟨rfl,hh⟩ hS
    have S:=hS (rdI rd (takeR r2 1)) hh (fun k h=>.inl h)
    clear hS
    obtain ⟨uu',huu⟩:∃ uu',uu'=numN (tookR r2 1) 0:=⟨_,rfl⟩
    rw[←huu]at S
    have hul:uu' < 256:=by rw[huu];exact (took_num r2 1 (by decide)).2
    replace S:=S.add (Φ:=GlF (takeR r2 1).p (takeR r2 1).bs) (takeR_gl hc2 (S.mem.fact (GlF r2.p r2.bs)))
    refine sq S ?_;clear S;intro a S
    rw[w64 (uu':Int) (by omega) (by omega)]at S
    refine sq S ?_;clear S;intro a S;refine sw S ?_;clear S;intro a w S;refine kN (xtn (kR ?_));(iterate 3 (refine sq S ?_;clear S;intro a S));refine sc S ?_;clear S;intro a w S
    refine srP S (needR_c h rd ((left:Int) - 1) (takeR r2 1) _ w (BoxF.stable (S.box h) (fun h=>h)) (BoxF.stable (S.box rd) (fun h=>h))) (fun ch w' hx S=>?_) ?_
    ·repeat (first | refine xtp ?_ | refine xbp ?_)
     refine endX S ?_
     obtain ⟨e,rfl,(⟨h1,rfl⟩ | ⟨h1,h2,rfl⟩)⟩:=hx
     ·refine ⟨7,rfl,?_⟩
      rw[hdec];refine decB_user htx ?_
      rw[take1_bad hw2 h1];exact userD_nil h10
     ·obtain ⟨c3,t3,hb3,hn3,-⟩:=take1_ok hw2 h1
      refine ⟨150,rfl,?_⟩
      rw[hdec];refine decB_user htx ?_
      rw[hb3]
      refine userD_bad h10 ?_
      simp only[knownF,Bool.and_eq_false_iff,decide_eq_false_iff_not]at h2
      omega
    clear S;rintro _ a w ⟨hw2b,hb3⟩ S
    obtain ⟨c3,t3,hbb3,hn3,hr3⟩:=take1_ok hw2 hw2b
    rw[←huu]at hn3
    simp only[knownF,Bool.and_eq_true,decide_eq_true_eq]at hb3
    refine kN (xtn ?_)
    replace S:=((((S.front (ext Mr)).front (Wk.box b4 43 [.int .i64 0,.int .i64 0,.int .i64 0,.string ⟨#[]⟩,.slice none 0 0])).front (rdI rd (takeR r2 1))).front (tmI h rd ((left:Int) - 1))).front (Wk.box b5 43 [.int .i64 kd,.int .i64 (uu':Int),.int .i64 0,str s,.slice none 0 0])
    refine ⟨takeR r2 1,(uu':Int),S.uu,⟨?_,hw2b,SubR.take r2 1⟩,S.sub _ _⟩
    rw[hbb3,userD_ok h10 (by omega),hr3,hn3]
   ·refine kK (xtn ?_)
    exact ⟨r2,0,S.uu,⟨userD_none h10,hw2,SubR.refl r2⟩,S.sub _ _⟩
  ·clear S;rintro r3 u uu a w ⟨hus,hw3,hsub3⟩ S
   have hc3:=hsub3.cap hc2
   have hl3:=hsub3.len
   refine c_mrge2 S (fun(r4:RS) (n:Int) uu=>[(76,uu 76),(0,uu 77),(0,uu 78),(0,uu 79),(0,uu 80),(0,uu 81),(0,uu 82),(0,uu 83),(0,uu 84),(0,uu 85),(0,uu 86)]) (fun(r4:RS) (n:Int)=>[Wk.box b5 43 [.int .i64 kd,.int .i64 u,.int .i64 n,str s,.slice none 0 0],tmI h rd ((left:Int) - 1),rdI rd r4,Wk.box b4 43 [.int .i64 0,.int .i64 0,.int .i64 0,.string ⟨#[]⟩,.slice none 0 0],ext Mr]) (fun(r4:RS) (n:Int)=>[GlF r4.p r4.bs]) (fun(r4:RS) (n:Int)=>numD (kd:Int) r3.bs=.ok (n,r4.bs)∧r4.why=0∧SubR r3 r4) ?_ ?_
   ·refine kS (kR (sq S ?_));clear S;intro a S;refine sc S ?_;clear S;intro a w S;refine kN (xtn ?_)
    refine kC S (fun h13=>?_) (fun h13=>?_)
    ·refine kS (kR ?_);(iterate 4 (refine sq S ?_;clear S;intro a S))
     refine sit (rdI rd r3) S (u16R_c rd r3 _ hc3 (by omega) (S.it (rdI rd r3)) (S.lend (rdI rd r3) (S.mem.fact (GlF r3.p r3.bs)))) rfl ?_;clear S;rintro _ a w ⟨rfl,hh⟩ hS
     have S:=hS (rdI rd (takeR r3 2)) hh (fun k h=>.inl h)
     clear hS
     obtain ⟨n2,hn2⟩:∃ n2,n2=numN (tookR r3 2) 0:=⟨_,rfl⟩
     rw[←hn2]at S
     have hn2l:n2 < 65536:=by rw[hn2];exact (took_num r3 2 (by decide)).2
     replace S:=S.add (Φ:=GlF (takeR r3 2).p (takeR r3 2).bs) (takeR_gl hc3 (S.mem.fact (GlF r3.p r3.bs)))
     refine sq S ?_;clear S;intro a S
     rw[w64 (n2:Int) (by omega) (by omega)]at S
     refine sq S ?_;clear S;intro a S;refine sw S ?_;clear S;intro a w S;refine kN (xtn (kR (sq S ?_)));clear S;intro a S
     refine srP S (needR_c h rd ((left:Int) - 1) (takeR r3 2) _ w (BoxF.stable (S.box h) (fun h=>h)) (BoxF.stable (S.box rd) (fun h=>h))) (fun ch w' hx S=>?_) ?_
     ·repeat (first | refine xtp ?_ | refine xbp ?_)
      refine endX S ?_
      obtain ⟨e,rfl,(⟨h1,rfl⟩ | ⟨h1,h2,rfl⟩)⟩:=hx
      ·refine ⟨7,rfl,?_⟩
       rw[hdec];refine decB_num htx hus ?_
       exact numD_bad h13 (take_bad hw3 h1)
      ·cases h2
     clear S;rintro _ a w ⟨hw3b,-⟩ S
     obtain ⟨q1,q2,q3⟩:=take_ok hw3 hw3b
     refine kN (xtn ?_)
     replace S:=((((S.front (ext Mr)).front (Wk.box b4 43 [.int .i64 0,.int .i64 0,.int .i64 0,.string ⟨#[]⟩,.slice none 0 0])).front (rdI rd (takeR r3 2))).front (tmI h rd ((left:Int) - 1))).front (Wk.box b5 43 [.int .i64 kd,.int .i64 u,.int .i64 (n2:Int),str s,.slice none 0 0])
     refine ⟨takeR r3 2,(n2:Int),S.uu,⟨?_,hw3b,SubR.take r3 2⟩,S.sub _ _⟩
     rw[numD_ok h13 (by omega),q3,hn2,q2]
    ·refine kK (xtn ?_)
     exact ⟨r3,0,S.uu,⟨numD_none h13,hw3,SubR.refl r3⟩,S.sub _ _⟩
   ·clear S;rintro r4 n uu a w ⟨hnu,hw4,hsub4⟩ S
    refine kS (kS (kR (sq S ?_)));clear S;intro a S
    have hc4:=hsub4.cap hc3
    have hl4:=hsub4.len
    obtain ⟨hkn,hkn2⟩:=kidsN_int (kd:Int)
    refine sr S (kids_c (fieldsOf (kd:Int)) _) ?_;clear S;rintro _ a w rfl S
    rw[hkn,show (left:Int) - 1=((left - 1:Nat):Int) from by omega]at S
    refine sq S ?_;clear S;intro a S;refine kN (xtn (kB ?_))
    refine c_fore6 S (fun(k:Nat) (zs:List LTerm) (r5:RS) (lf:Nat) (p5:Option Addr) (c5:Nat) uu=>[(89,.int .i64 (k:Nat)),(0,uu 90),(0,uu 91),(0,uu 92),(0,uu 93),(0,uu 94),(0,uu 95),(0,uu 96),(0,uu 97),(0,uu 98),(0,uu 99),(0,uu 100)]) (fun(k:Nat) (zs:List LTerm) (r5:RS) (lf:Nat) (p5:Option Addr) (c5:Nat)=>[Wk.box b5 43 [.int .i64 kd,.int .i64 u,.int .i64 n,str s,.slice p5 k c5],Wk.row 43 5 p5 k c5 (encL zs),tmI h rd (lf:Nat),rdI rd r5,Wk.box b4 43 [.int .i64 0,.int .i64 0,.int .i64 0,.string ⟨#[]⟩,.slice none 0 0],ext Mr]) (fun(k:Nat) (zs:List LTerm) (r5:RS) (lf:Nat) (p5:Option Addr) (c5:Nat)=>[AllL zs,GlF r5.p r5.bs]) (fun(k:Nat) (zs:List LTerm) (r5:RS) (lf:Nat) (p5:Option Addr) (c5:Nat)=>k=zs.length∧k≤kidsN (kd:Int)∧lf≤left - 1∧r5.why=0∧SubR r4 r5∧kidsD (decT (m - 1)) (kidsN (kd:Int)) (left - 1) r4.bs=preD (zs.map LTerm.t) (kidsD (decT (m - 1)) (kidsN (kd:Int) - k) lf r5.bs)) (fun(k:Nat) (zs:List LTerm) (r5:RS) (lf:Nat) (p5:Option Addr) (c5:Nat)=>kidsN (kd:Int) - k) (0) ([]) (r4) (left - 1) (none) (0) ?_ S.uu ?_ ?_
    ·exact ⟨rfl,Nat.zero_le _,Nat.le_refl _,hw4,SubR.refl r4,(preD_nil _).symm⟩
    ·replace S:=S.addNil 43 5
     replace S:=S.add (Φ:=AllL []) (fun _ _ _ hx=>by cases hx)
     rw[show Wk.row 43 5 none 0 0 []=Wk.row 43 5 none 0 0 (encL ([]:List LTerm)) from rfl]at S
     exact S.front (Wk.box b5 43 [.int .i64 kd,.int .i64 u,.int .i64 n,str s,.slice none 0 0])
    ·clear S;rintro k zs r5 lf p5 c5 uu a w ⟨hkz,hk,hlf,hw5,hsub5,hkd5⟩ S
     refine kS (kR (sq S ?_));clear S;intro a S;refine kN (xtn (kS ?_))
     refine kC S (fun h17=>?_) (fun h17=>?_)
     ·refine kK (xtn (kS (kB ?_)))
      have hkl:k < kidsN (kd:Int):=by simp at h17;omega
      have hc5:=hsub5.cap hc4
      have hl5:=hsub5.len
      have hkk:kidsN (kd:Int) - k=(kidsN (kd:Int) - (k+1))+1:=by omega
      refine c_drawXL 9 [(0,true),(1,true),(2,true),(3,true),(4,true),(5,false),(6,false),(7,false),(8,true),(9,false)] [Wk.box b5 43 [.int .i64 kd,.int .i64 u,.int .i64 n,str s,.slice p5 k c5]] (⟨[],[],fun ch w=>Agree (rtI h rd (left:Nat) r).foot w0 w∧DecX m left r ch⟩) S (fun ch a w ⟨_,hd,ha,hx⟩=>by repeat (first | refine xtp ?_ | refine xbp ?_);exact ⟨hd,.inr ⟨ch,rfl,ha,hx⟩⟩) ?_;clear S;intro w S
      (iterate 5 (refine dqXL S ?_;clear S;intro a S))
      rw[w64 ((61:Int) - (m:Nat)+1) (by omega) (by omega),show (61:Int) - (m:Nat)+1=61 - ((m - 1:Nat):Int) from by omega]at S
      refine dlXL ?_
      replace S:=((S.front (rdI rd r5)).front (tmI h rd (lf:Nat))).toBoth
      refine sitMP (rtI h rd (lf:Nat) r5) S (ih (m - 1) h rd lf r5 (restOf _ (rtI h rd (lf:Nat) r5)) w (by omega) (by omega) (by omega) hw5 hc5 (by omega) (S.restOk _) (S.it (rtI h rd (lf:Nat) r5)) ((S.mem.fact (GlF r5.p r5.bs)).split (rtI h rd (lf:Nat) r5))) rfl (fun ch w' hx hS=>?_) ?_
      ·obtain ⟨e,rfl,he⟩:=hx
       have S:=hS (bs':=_)
       refine XP.of S (by simp) rfl ⟨S.wd.agree,e,rfl,?_⟩
       rw[hdec]
       refine decB_kids htx hus hnu ?_
       rw[hkd5,hkk]
       exact kidsD_bad _ _ _ _ _ _ he
      clear S;rintro _ a w ⟨z,lf',r6,rfl,hde,hlf',hw6,hsub6,hh6,hz⟩ hS
      have S:=hS (rtI h rd (lf':Nat) r6) [LtF z] hh6 (fun k h=>.inl h) (by simp only[List.mem_cons,List.not_mem_nil,or_false];rintro Φ rfl;exact hz)
      clear hS
      replace S:=S.ofBoth
      replace S:=S.add (Φ:=GlF r6.p r6.bs) ((S.mem.fact (GlF r5.p r5.bs)).imp fun _ h=>hsub6.gl hc5 _ h)
      have hA1:Stable _ _ (AllL zs):=S.wd.facts (AllL zs) (by simp)
      have hA2:=S.t z
      replace S:=S.add (Φ:=AllL (zs++[z])) (fun w' hw' x hx=>by
       rcases List.mem_append.1 hx with h | h
       ·exact hA1 w' hw' x h
       ·rw[List.mem_singleton.1 h];exact hA2 w' hw')
      refine deXL S ?_;refine dlXL (sn S ?_);clear S;intro b97 a w S;refine deXL S ?_;refine dlXL ?_
      refine sap S (by simp[maxLen];omega) (by omega) ?_;clear S;rintro p7 c7 a w - S
      rw[show encL zs++[Value.int .i64 z.kind,.int .i64 z.user,.int .i64 z.num,str z.text,.slice z.p z.kids.length z.cap]=encL (zs++[z]) from by rw[encL_append];rfl]at S
      refine deXL S ?_;refine dqXL S ?_;clear S;intro a S;refine dlXL (sw S ?_);clear S;intro a w S;refine dzXL (xbn (xtn (kR ?_)));(iterate 2 (refine sq S ?_;clear S;intro a S));refine kN (xtn ?_)
      rw[w64 ((k:Int)+1) (by omega) (by omega)]at S
      replace S:=((((S.front (rdI rd r6)).front (tmI h rd (lf':Nat))).front (Wk.row 43 5 p7 (k+1) c7 (encL (zs++[z])))).front (Wk.box b5 43 [.int .i64 kd,.int .i64 u,.int .i64 n,str s,.slice p7 (k+1) c7]))
      refine ⟨k+1,zs++[z],r6,lf',p7,c7,S.uu,⟨by simp[hkz],hkl,by omega,hw6,hsub5.trans hsub6,?_⟩,S.sub _ _,by omega⟩
      rw[hkd5,hkk,kidsD_step _ _ _ _ _ z.t lf' r6.bs hde,List.map_append];rfl
     ·refine kE (xte (xte (xbe (xtn (kS ?_)))))
      have hk2:kidsN (kd:Int)=k:=by simp at h17;omega
      subst hkz
      refine kR (sq S ?_);clear S;intro a S;refine sw S ?_;clear S;intro a w S;refine kN (xtn (kT ?_))
      have hrow:=S.row p5 zs.length
      have hall:Stable _ _ (AllL zs):=S.wd.facts (AllL zs) (by simp)
      have hap:∀ ad,p5=some ad→¬((rtI h rd (lf:Nat) r5).foot ad.block∨Mr ad.block):=fun ad had hm=>by
       rcases hm with (hm | hm) | hm
       ·exact St.apart2 S (Wk.row 43 5 p5 zs.length c5 (encL zs)) (tmI h rd (lf:Nat)) ad.block ⟨ad,had,rfl⟩ hm
       ·exact St.apart2 S (Wk.row 43 5 p5 zs.length c5 (encL zs)) (rdI rd r5) ad.block ⟨ad,had,rfl⟩ hm
       ·exact St.apart2 S (Wk.row 43 5 p5 zs.length c5 (encL zs)) (ext Mr) ad.block ⟨ad,had,rfl⟩ hm
      have hkids:Stable (fun k=>(rtI h rd (lf:Nat) r5).foot k∨Mr k) _ (AllL zs):=hall.less fun k _ hm=>by
       rcases hm with (hm | hm) | hm
       ·exact ⟨tmI h rd (lf:Nat),by simp,hm⟩
       ·exact ⟨rdI rd r5,by simp,hm⟩
       ·exact ⟨ext Mr,by simp,hm⟩
      have hls:=ls_of_own hrow (fun x hx=>AllL.get hkids hx) hap
      replace S:=((S.front (rdI rd r5)).front (tmI h rd (lf:Nat))).toBoth
      have hh:=S.it (rtI h rd (lf:Nat) r5)
      refine endP (end1 S (fun _=>?_))
      refine ⟨.mk kd u n s p5 c5 zs,lf,r5,rfl,?_,by omega,hw5,((((hsub1.trans hsub2).trans hsub3).trans hsub4).trans hsub5),hh,fun w' hw'=>?_⟩
      ·rw[hdec,LTerm.t_eq]
       refine decB_ok htx hus hnu ?_
       rw[hkd5,hk2,Nat.sub_self,kidsD,preD,List.append_nil];rfl
      ·exact LtIn.iff.2 ⟨own_le hrow,own_capT hrow,hls w' hw'⟩
deriving instance DecidableEq for LMark
theorem eq_mark (m n:LMark) (w:World):(Go.Op.equalIn 10000 177 (.agg ⟨[str m.key,.int .i64 m.ver]⟩) (.agg ⟨[str n.key,.int .i64 n.ver]⟩)).run Tryz.prog w=.ok (decide (m=n)) w:=by
 have u3:=Tryz.underlying3
 have a3:=Tryz.isAgg3
 have z3:=Tryz.sizeOf3
 have u9:=Tryz.underlying9
 have a9:=Tryz.isAgg9
 have z9:=Tryz.sizeOf9
 have hS:Tryz.prog.underlying 177=some (.struct (Tryz.prog.fieldsOf 177)):=by kernel_rfl
 have hp:Tryz.prog.stoodInHeld 177=false:=by kernel_rfl
 obtain ⟨a,x⟩:=m
 obtain ⟨b,y⟩:=n
 rw[show (10000:Nat)=9999+1 from rfl,run_equalIn_agg w 9999 177 _ _ hS hp]
 simp only[Program.fieldsOf,Tryz.underlying177]
 go_simp
 by_cases h1:a=b <;> by_cases h2:x=y <;> simp[h1,h2]
theorem guard_mark:Tryz.prog.eqGuardType Tryz.prog.depth 177=false:=by kernel_rfl
section
variable {l:Cx} {bs:List Wk.Item} {fs:List (World→Prop)} {x y:Operand} {m n:LMark} {t' ty:TypeId}
instance opNeMark [Ev l x (.agg ⟨[str m.key,.int .i64 m.ver]⟩)] [Ev l y (.agg ⟨[str n.key,.int .i64 n.ver]⟩)]:OpQ Tryz.prog (.binOp .neq 177 x y t') ty l bs fs (.bool (!decide (m=n))):=⟨fun ρ w h _=>by
 simp[xop,execOp,h.ev (x:=x) (v:=.agg ⟨[str m.key,.int .i64 m.ver]⟩),h.ev (x:=y) (v:=.agg ⟨[str n.key,.int .i64 n.ver]⟩),Sem.run_bind,run_eqGuard_agg w .neq 177 x y _ _ guard_mark,run_neq_struct,eq_mark]⟩
end
theorem eq_seed (m n:LMark) (w:World):(Go.Op.equalIn 10000 175 (.agg ⟨[str m.key,.int .i64 m.ver]⟩) (.agg ⟨[str n.key,.int .i64 n.ver]⟩)).run Tryz.prog w=.ok (decide (m=n)) w:=by
 have u3:=Tryz.underlying3
 have a3:=Tryz.isAgg3
 have z3:=Tryz.sizeOf3
 have u9:=Tryz.underlying9
 have a9:=Tryz.isAgg9
 have z9:=Tryz.sizeOf9
 have hS:Tryz.prog.underlying 175=some (.struct (Tryz.prog.fieldsOf 175)):=by kernel_rfl
 have hp:Tryz.prog.stoodInHeld 175=false:=by kernel_rfl
 obtain ⟨a,x⟩:=m
 obtain ⟨b,y⟩:=n
 rw[show (10000:Nat)=9999+1 from rfl,run_equalIn_agg w 9999 175 _ _ hS hp]
 simp only[Program.fieldsOf,Tryz.underlying175]
 go_simp
 by_cases h1:a=b <;> by_cases h2:x=y <;> simp[h1,h2]
theorem guard_seed:Tryz.prog.eqGuardType Tryz.prog.depth 175=false:=by kernel_rfl
section
variable {l:Cx} {bs:List Wk.Item} {fs:List (World→Prop)} {x y:Operand} {m n:LMark} {t' ty:TypeId}
instance opEqSeed [Ev l x (.agg ⟨[str m.key,.int .i64 m.ver]⟩)] [Ev l y (.agg ⟨[str n.key,.int .i64 n.ver]⟩)]:OpQ Tryz.prog (.binOp .eql 175 x y t') ty l bs fs (.bool (decide (m=n))):=⟨fun ρ w h _=>by
 simp[xop,execOp,h.ev (x:=x) (v:=.agg ⟨[str m.key,.int .i64 m.ver]⟩),h.ev (x:=y) (v:=.agg ⟨[str n.key,.int .i64 n.ver]⟩),Sem.run_bind,run_eqGuard_agg w .eql 175 x y _ _ guard_seed,run_eql_struct,eq_seed]⟩
instance opNeSeed [Ev l x (.agg ⟨[str m.key,.int .i64 m.ver]⟩)] [Ev l y (.agg ⟨[str n.key,.int .i64 n.ver]⟩)]:OpQ Tryz.prog (.binOp .neq 175 x y t') ty l bs fs (.bool (!decide (m=n))):=⟨fun ρ w h _=>by
 simp[xop,execOp,h.ev (x:=x) (v:=.agg ⟨[str m.key,.int .i64 m.ver]⟩),h.ev (x:=y) (v:=.agg ⟨[str n.key,.int .i64 n.ver]⟩),Sem.run_bind,run_eqGuard_agg w .neq 175 x y _ _ guard_seed,run_neq_struct,eq_seed]⟩
end
theorem indexMk_c (F:Nat) [EntF Tryz.prog F] (ca:List Value) (q:LMark→Bool) (xs:List LMark) (p:Option Addr) (n c:Nat) (w0:World) (hn:xs.length=n) (hl:n≤9223372036854775807) (hx:Stable (fun _=>False) w0 (GlF p xs))
  (hF:∀ x∈xs,∀ w,Agree (fun _=>False) w0 w→Ret Tryz.prog F (vMark x::ca) w (fun _=>False) fun v _=>v=.bool (q x)) :
  Ret Tryz.prog 253 [.slice p n c,.func (.func F) #[] ⟨ca⟩] w0 (fun _=>False) fun v _=>v=.int .i64 (idxG q xs 0):=by
 refine enter Tryz.func253 rfl rfl (Wd.begin (fs:=[GlF p xs]) (by simpa using hx)) (fun a S=>?_)
 simp only[Tryz.ntmps253,qqA,qqB,Nat.reduceAdd,Nat.reduceSub,qqC,qqD,qqE,qqF]at S
 refine kS (kR (sq S ?_));clear S;intro a S;refine kN (xtn (kS (kS (kR ?_))));(iterate 3 (refine sq S ?_;clear S;intro a S));refine kN (xtn (kB ?_))
 refine c_forb1 S (fun(k:Nat) uu=>[(4,uu 4),(0,uu 5),(2,.int .i64 (k:Nat)),(0,uu 9),(0,uu 10),(0,uu 11),(0,uu 12),(0,uu 13),(0,uu 14),(0,uu 15),(0,uu 16),(0,uu 17),(0,uu 18)]) (fun(k:Nat)=>k≤n∧idxG q (xs.drop k) k=idxG q xs 0) (fun(k:Nat)=>n - k) (0) ?_ S.uu ?_ ?_
 exact ⟨Nat.zero_le _,rfl⟩
 first | exact S | exact S.sub _ _
 clear S;rintro k uu a w ⟨hk,hrel⟩ S
 refine kS (kR (sq S ?_));clear S;intro a S;refine kN (xtn (kS ?_))
 refine kC S (fun h2=>?_) (fun h2=>?_)
 refine kK (xtn (kS (kB (kS (kR ?_)))));(iterate 2 (refine sq S ?_;clear S;intro a S));refine kN (xtn (kS ?_))
 have hkl:k < n:=by simp at h2;omega
 have hK:KLt k n:=⟨hkl⟩
 have hK2:KLt k xs.length:=⟨by omega⟩
 rw[nthG_drop (show k < xs.length by omega),idxG]at hrel
 refine kR ?_;(iterate 5 (refine sq S ?_;clear S;intro a S))
 refine sr S (hF (nthG xs k) (nthG_mem (by omega)) w S.wd.agree) ?_;clear S;rintro _ a w rfl S
 refine kN (xtn ?_)
 refine kC S (fun h4=>?_) (fun h4=>?_)
 refine kS (kR ?_);(iterate 2 (refine sq S ?_;clear S;intro a S));refine kN (xtn (kT (xbr (xtr (xtr (xbr (xtr ?_)))))))
 rw[if_pos h4]at hrel
 refine end1 S (fun _=>?_)
 rw[hrel]
 refine kK (xbn (xtn (kR ?_)));(iterate 2 (refine sq S ?_;clear S;intro a S));refine kN (xtn ?_)
 rw[if_neg (by simpa using h4)]at hrel
 rw[w64 ((k:Int)+1) (by omega) (by omega)]at S
 exact ⟨k+1,S.uu,⟨hkl,by rw[←hrel];rfl⟩,S.sub _ _,by omega⟩
 refine kE (xte (xte (xbe (xtn (kS (kR (sq S ?_)))))));clear S;intro a S;refine kN (xtn (kT ?_))
 rw[List.drop_of_length_le (by simp at h2;omega)]at hrel
 refine end1 S (fun _=>?_)
 rw[←hrel];rfl
theorem containsMk_c (F:Nat) [EntF Tryz.prog F] (ca:List Value) (q:LMark→Bool) (xs:List LMark) (p:Option Addr) (n c:Nat) (w0:World) (hn:xs.length=n) (hl:n≤9223372036854775807) (hx:Stable (fun _=>False) w0 (GlF p xs))
  (hF:∀ x∈xs,∀ w,Agree (fun _=>False) w0 w→Ret Tryz.prog F (vMark x::ca) w (fun _=>False) fun v _=>v=.bool (q x)) :
  Ret Tryz.prog 211 [.slice p n c,.func (.func F) #[] ⟨ca⟩] w0 (fun _=>False) fun v _=>v=.bool (xs.any q):=by
 refine enter Tryz.func211 rfl rfl (Wd.begin (fs:=[GlF p xs]) (by simpa using hx)) (fun a S=>?_)
 simp only[Tryz.ntmps211,qqA,qqB,Nat.reduceAdd,Nat.reduceSub,qqC,qqD,qqE,qqF]at S
 refine kS (kR (sq S ?_));clear S;intro a S;refine kN (xtn (kS (kR ?_)));(iterate 2 (refine sq S ?_;clear S;intro a S))
 refine sr S (indexMk_c F ca q xs p n c _ hn hl (S.gl0 p) fun x hx w' hw'=>hF x hx w' (S.wd.agree.trans hw')) ?_;clear S;rintro _ a w rfl S
 (iterate 2 (refine sq S ?_;clear S;intro a S));refine kN (xtn (kT ?_))
 refine end1 S (fun _=>?_)
 rw[idxG_any q xs 0 (by omega)]
def covK (m x:LMark):Bool:=decide (x.key=m.key)&&decide (m.ver≤x.ver)
theorem fcovK1_c (b:Nat) (m x:LMark) (w0:World) (hb:Stable (fun _=>False) w0 (BoxF b 177 [str m.key,.int .i64 m.ver])):Ret Tryz.prog 212 [vMark x,.pointer (some ⟨b,0,none⟩)] w0 (fun _=>False) fun v _=>v=.bool (covK m x):=by
 refine enter Tryz.func212 rfl rfl (Wd.begin (fs:=[BoxF b 177 [str m.key,.int .i64 m.ver]]) (by simpa using hb)) (fun a S=>?_)
 simp only[Tryz.ntmps212,qqA,qqB,Nat.reduceAdd,Nat.reduceSub,qqC,qqD,qqE,qqF]at S
 refine kS (kR ?_);refine sa S ?_;clear S;intro b2 a w S;refine sq S ?_;clear S;intro a S;refine kN (xtn (kS (kR ?_)));(iterate 6 (refine sq S ?_;clear S;intro a S));(iterate 5 (refine gQ S ?_;clear S;intro a S));(iterate 2 (refine sq S ?_;clear S;intro a S));refine kN (xtn (kT ?_))
 refine end1 S (fun _=>?_)
 first | rfl | simp[covK]
theorem fcov1_c (b:Nat) (m:LMark) (now:List LMark) (q:Option Addr) (n e:Nat) (w0:World) (hn:now.length=n) (hl:n≤1000000) (hb:Stable (fun _=>False) w0 (BoxF b 64 [.slice q n e])) (hx:Stable (fun _=>False) w0 (GlF q now)):Ret Tryz.prog 210 [vMark m,.pointer (some ⟨b,0,none⟩)] w0 (fun _=>False) fun v _=>v=.bool (!now.any (covK m)):=by
 refine enter Tryz.func210 rfl rfl (Wd.begin (fs:=[BoxF b 64 [.slice q n e],GlF q now]) (by simp;exact ⟨hb,hx⟩)) (fun a S=>?_)
 simp only[Tryz.ntmps210,qqA,qqB,Nat.reduceAdd,Nat.reduceSub,qqC,qqD,qqE,qqF]at S
 refine kS (kR ?_);refine sa S ?_;clear S;intro b2 a w S;refine sq S ?_;clear S;intro a S;refine kN (xtn (kS (kR ?_)));(iterate 2 (refine sq S ?_;clear S;intro a S))
 have hbx:=BoxF.stable (M:=fun _=>False) (S.boxF b2) (fun h=>h)
 refine sr S (containsMk_c 212 [.pointer (some ⟨b2,0,none⟩)] (covK m) now q n e _ hn (by omega) (S.gl0 q) (fun x _ w' hw'=>fcovK1_c b2 m x w' (hbx.later hw'))) ?_;clear S;rintro _ a w rfl S
 (iterate 2 (refine sq S ?_;clear S;intro a S));refine kN (xtn (kT ?_))
 refine end1 S (fun _=>rfl)
theorem fcov_c (old now:List LMark) (p q:Option Addr) (c e:Nat) (w0:World) (hl:old.length≤1000000) (hl2:now.length≤1000000) (hx:Stable (fun _=>False) w0 (GlF p old)) (hy:Stable (fun _=>False) w0 (GlF q now)) :
  Ret Tryz.prog 123 [.slice p old.length c,.slice q now.length e] w0 (fun _=>False) fun v _=>v=.bool (!old.any fun m=>!now.any (covK m)):=by
 refine enter Tryz.func123 rfl rfl (Wd.begin (fs:=[GlF p old,GlF q now]) (by simp;exact ⟨hx,hy⟩)) (fun a S=>?_)
 simp only[Tryz.ntmps123,qqA,qqB,Nat.reduceAdd,Nat.reduceSub,qqC,qqD,qqE,qqF]at S
 refine kS (kR ?_);refine sa S ?_;clear S;intro b3 a w S;refine sq S ?_;clear S;intro a S;refine kN (xtn (kS (kR ?_)));(iterate 2 (refine sq S ?_;clear S;intro a S));refine kN (xtn (kS (kR ?_)));(iterate 2 (refine sq S ?_;clear S;intro a S))
 have hbx:=BoxF.stable (M:=fun _=>False) (S.boxF b3) (fun h=>h)
 have hqx:=S.gl0 q
 refine sr S (containsMk_c 210 [.pointer (some ⟨b3,0,none⟩)] (fun m=>!now.any (covK m)) old p old.length c _ rfl (by omega) (S.gl0 p) (fun x _ w' hw'=>fcov1_c b3 x now q now.length e w' rfl hl2 (hbx.later hw') (hqx.later hw'))) ?_;clear S;rintro _ a w rfl S
 (iterate 2 (refine sq S ?_;clear S;intro a S));refine kN (xtn (kT ?_))
 refine end1 S (fun _=>rfl)
theorem cisnan_c (x:Int) (w0:World):Ret Tryz.prog 207 [.int .i64 x] w0 (fun _=>False) fun v _=>v=.bool false:=by
 refine enter Tryz.func207 rfl rfl (Wd.start w0) (fun a S=>?_)
 simp only[Tryz.ntmps207,qqA,qqB,Nat.reduceAdd,Nat.reduceSub,qqC,qqD,qqE,qqF]at S
 refine kS (kR (sq S ?_));clear S;intro a S;refine kN (xtn (kS (kR ?_)));(iterate 4 (refine sq S ?_;clear S;intro a S));refine kN (xtn (kT ?_))
 refine end1 S (fun _=>?_)
 simp
def cmpI (x y:Int):Int:=if x < y then -1 else if y < x then 1 else 0
theorem ccmp_c (x y:Int) (w0:World):Ret Tryz.prog 121 [.int .i64 x,.int .i64 y] w0 (fun _=>False) fun v _=>v=.int .i64 (cmpI x y):=by
 refine enter Tryz.func121 rfl rfl (Wd.start w0) (fun a S=>?_)
 simp only[Tryz.ntmps121,qqA,qqB,Nat.reduceAdd,Nat.reduceSub,qqC,qqD,qqE,qqF]at S
 refine kS (kR (sq S ?_));clear S;intro a S;refine kN (xtn (kS (kR (sq S ?_))));clear S;intro a S;refine sr S (cisnan_c x _) ?_;clear S;rintro _ a w rfl S;refine sq S ?_;clear S;intro a S;refine kN (xtn (kS (kR (sq S ?_))));clear S;intro a S;refine sr S (cisnan_c y _) ?_;clear S;rintro _ a w rfl S;refine sq S ?_;clear S;intro a S;refine kN (xtn (kS (kS (kR (sq S ?_)))));clear S;intro a S;refine kN (xtn ?_);refine c_condF S ?_;refine kK (xtn (kS (kS (kR (sq S ?_)))));clear S;intro a S;refine kN (xtn ?_);refine c_condF S ?_;refine kK ?_
 refine xtn (kS (kS (kR ?_)));(iterate 3 (refine sq S ?_;clear S;intro a S));refine kN (xtn ?_)
 refine kC S (fun h9=>?_) (fun h9=>?_)
 refine kS (kR (sq S ?_));clear S;intro a S;refine kN (xtn (kT (xtr ?_)))
 have h:x < y:=by simpa using h9
 refine end1 S (fun _=>?_)
 rw[cmpI,if_pos h]
 refine kK (xtn (kS (kS (kR ?_))));(iterate 3 (refine sq S ?_;clear S;intro a S));refine kN (xtn ?_)
 refine kC S (fun h11=>?_) (fun h11=>?_)
 refine kS (kR (sq S ?_));clear S;intro a S;refine kN (xtn (kT (xtr ?_)))
 have h:¬x < y:=by simpa using h9
 have h':y < x:=by simpa using h11
 refine end1 S (fun _=>?_)
 rw[cmpI,if_neg h,if_pos h']
 refine kK (xtn (kS (kR (sq S ?_))));clear S;intro a S;refine kN (xtn (kT ?_))
 have h:¬x < y:=by simpa using h9
 have h':¬y < x:=by simpa using h11
 refine end1 S (fun _=>?_)
 rw[cmpI,if_neg h,if_neg h']
theorem ffind1_c (s:LSeen) (u:Int) (w0:World):Ret Tryz.prog 250 [.agg ⟨cSeen s⟩,.int .i64 u] w0 (fun _=>False) fun v _=>v=.int .i64 (cmpI s.user u):=by
 refine enter Tryz.func250 rfl rfl (Wd.start w0) (fun a S=>?_)
 simp only[Tryz.ntmps250,qqA,qqB,Nat.reduceAdd,Nat.reduceSub,qqC,qqD,qqE,qqF]at S
 refine kS (kR ?_);refine sa S ?_;clear S;intro b2 a w S;refine sq S ?_;clear S;intro a S;refine kN (xtn (kS (kR ?_)));(iterate 3 (refine sq S ?_;clear S;intro a S));refine sr S (ccmp_c s.user u _) ?_;clear S;rintro _ a w rfl S;refine sq S ?_;clear S;intro a S;refine kN (xtn (kT ?_))
 refine end1 S (fun _=>rfl)
instance {s:LSeen} {u:Int} {bs fs} : CallV Tryz.prog 250 [.agg ⟨[.int .i64 s.user,.int .i64 s.cnt,.int .i64 s.root.kind,.int .i64 s.root.user,.int .i64 s.root.num,str s.root.text,.slice s.root.p s.root.kids.length s.root.cap]⟩,.int .i64 u] bs fs (.int .i64 (cmpI s.user u)):=⟨fun w _=>ffind1_c s u w⟩
theorem cmpI_lt {x y:Int} : decide (cmpI x y < 0)=decide (x < y):=by
 unfold cmpI;split
 rename_i h;rw[decide_eq_true h];rfl
 rename_i h;rw[decide_eq_false h];split <;> rfl
theorem cmpI_eq {x y:Int} : decide (cmpI x y=0)=decide (x=y):=by
 unfold cmpI;split
 rename_i h;rw[decide_eq_false (show ¬x=y by omega)];rfl
 split
 rename_i h;rw[decide_eq_false (show ¬x=y by omega)];rfl
 rw[decide_eq_true (show x=y by omega)];rfl
def AtS (l:List LSeen) (u:Int) (i:Nat) (b:Bool):Prop:=i≤l.length∧b=(decide ((i:Int) < (l.length:Int))&&decide ((nthG l i).user=u))∧((∀ a c,a < c→c < l.length→(nthG l a).user < (nthG l c).user)→(∀ a,a < i→(nthG l a).user < u)∧∀ a,i≤a→a < l.length→u≤(nthG l a).user)
theorem fbsK_c (l:List LSeen) (p:Option Addr) (c:Nat) (u:Int) (w0:World) (hl:l.length≤1000000) (hx:Stable (fun _=>False) w0 (GlF p l)) :
  Ret Tryz.prog 249 [.slice p l.length c,.int .i64 u,.func (.func 250) #[] #[]] w0 (fun _=>False) fun v _=>∃ (i:Nat) (b:Bool),v=.tuple ⟨[.int .i64 (i:Nat),.bool b]⟩∧AtS l u i b:=by
 refine enter Tryz.func249 rfl rfl (Wd.begin (fs:=[GlF p l]) (by simpa using hx)) (fun a S=>?_)
 simp only[Tryz.ntmps249,qqA,qqB,Nat.reduceAdd,Nat.reduceSub,qqC,qqD,qqE,qqF]at S
 refine kS (kR ?_);(iterate 2 (refine sq S ?_;clear S;intro a S));refine kN (xtn (kS (kR ?_)));(iterate 3 (refine sq S ?_;clear S;intro a S));refine kN (xtn (kS (kR ?_)));(iterate 3 (refine sq S ?_;clear S;intro a S));refine kN (xtn (kS (kB ?_)))
 refine c_forb2 S (fun(i:Nat) (j:Nat) uu=>[(9,.int .i64 (i:Nat)),(0,.int .i64 (j:Nat)),(0,uu 11),(3,uu 15),(0,uu 16),(0,uu 17),(0,uu 18),(0,uu 19),(0,uu 20),(0,uu 21),(0,uu 22),(0,uu 23),(0,uu 24),(0,uu 25),(0,uu 26),(0,uu 27),(0,uu 28),(0,uu 29),(0,uu 30),(0,uu 31),(0,uu 32),(0,uu 33),(0,uu 34)]) (fun(i:Nat) (j:Nat)=>i≤j∧j≤l.length∧((∀ a c,a < c→c < l.length→(nthG l a).user < (nthG l c).user)→(∀ a,a < i→(nthG l a).user < u)∧∀ a,j≤a→a < l.length→u≤(nthG l a).user)) (fun(i:Nat) (j:Nat)=>j - i) (0) (l.length) ?_ S.uu ?_ ?_
 exact ⟨Nat.zero_le _,Nat.le_refl _,fun _=>⟨fun a h=>by omega,fun a h h2=>by omega⟩⟩
 first | exact S | exact S.sub _ _
 clear S;rintro i j uu a w ⟨hij,hjl,hso⟩ S
 refine kS (kS (kR ?_));(iterate 3 (refine sq S ?_;clear S;intro a S));refine kN (xtn ?_)
 refine kC S (fun h3=>?_) (fun h3=>?_)
 refine kK (xtn (kB (kS (kR ?_))));(iterate 5 (refine sq S ?_;clear S;intro a S))
 rw[half_u i j (by omega)]at S
 refine sq S ?_;clear S;intro a S
 rw[show IntKind.i64.wrap (((i+j) / 2:Nat):Int)=(((i+j) / 2:Nat):Int) from w64 _ (by omega) (by omega)]at S
 have hKh:KLt ((i+j) / 2) l.length:=⟨by simp at h3;omega⟩
 refine sq S ?_;clear S;intro a S;refine kN (xtn (kS (kR ?_)));(iterate 6 (refine sq S ?_;clear S;intro a S));refine sr S (ffind1_c (nthG l ((i+j) / 2)) u _) ?_;clear S;rintro _ a w rfl S;refine sq S ?_;clear S;intro a S
 rw[cmpI_lt]at S
 refine kN (xtn ?_)
 refine kC S (fun h5=>?_) (fun h5=>?_)
 refine kR ?_;(iterate 2 (refine sq S ?_;clear S;intro a S))
 rw[show IntKind.i64.wrap ((((i+j) / 2:Nat):Int)+1)=(((i+j) / 2+1:Nat):Int) from w64 _ (by omega) (by omega)]at S
 refine sq S ?_;clear S;intro a S;refine kN (xbn (xtn ?_))
 have h3':i < j:=by simp at h3;omega
 have h5':=of_decide_eq_true h5
 refine ⟨(i+j) / 2+1,j,S.uu,⟨by omega,hjl,fun hs=>⟨fun a ha=>?_,(hso hs).2⟩⟩,S.sub _ _,by omega⟩
 rcases Nat.lt_succ_iff_lt_or_eq.1 ha with h | rfl
 exact Int.lt_trans (hs a _ h (by omega)) h5'
 exact h5'
 refine kR ?_;(iterate 2 (refine sq S ?_;clear S;intro a S));refine kN (xbn (xtn ?_))
 have h3':i < j:=by simp at h3;omega
 have h5':=of_decide_eq_false h5
 refine ⟨i,(i+j) / 2,S.uu,⟨by omega,by omega,fun hs=>⟨(hso hs).1,fun a ha hal=>?_⟩⟩,S.sub _ _,by omega⟩
 rcases Nat.eq_or_lt_of_le ha with rfl | h
 omega
 have:=hs _ a h hal;omega
 refine kE (xte (xte (xbe (xtn (kS (kR ?_))))));(iterate 5 (refine sq S ?_;clear S;intro a S));(iterate 6 (refine gQ S ?_;clear S;intro a S));refine gC S ?_;clear S;intro a w S;refine gQ S ?_;clear S;intro a S;(iterate 3 (refine sq S ?_;clear S;intro a S));refine kN (xtn (kT ?_))
 have hije:i=j:=by simp at h3;omega
 subst hije
 refine end2 S (fun _=>⟨i,_,rfl,hjl,?_,hso⟩)
 rw[cmpI_eq]
theorem ffindK_c (l:List LSeen) (p:Option Addr) (c:Nat) (u:Int) (w0:World) (hl:l.length≤1000000) (hx:Stable (fun _=>False) w0 (GlF p l)) :
  Ret Tryz.prog 205 [.slice p l.length c,.int .i64 u] w0 (fun _=>False) fun v _=>∃ (i:Nat) (b:Bool),v=.tuple ⟨[.int .i64 (i:Nat),.bool b]⟩∧AtS l u i b:=by
 refine enter Tryz.func205 rfl rfl (Wd.begin (fs:=[GlF p l]) (by simpa using hx)) (fun a S=>?_)
 simp only[Tryz.ntmps205,qqA,qqB,Nat.reduceAdd,Nat.reduceSub,qqC,qqD,qqE,qqF]at S
 refine kS (kR ?_);(iterate 2 (refine sq S ?_;clear S;intro a S));refine kN (xtn (kS (kR ?_)));(iterate 2 (refine sq S ?_;clear S;intro a S))
 refine sr S (fbsK_c l p c u _ hl (S.gl0 p)) ?_;clear S;rintro _ a w ⟨i,b,rfl,hib⟩ S
 (iterate 4 (refine sq S ?_;clear S;intro a S));refine kN (xtn (kT ?_))
 exact end2 S (fun _=>⟨i,b,rfl,hib⟩)
theorem own_cap {w:World} {e:TypeId} {sz:Nat} {p:Option Addr} {n c:Nat} {xs:List Value} (h:w.ownsRow 0 e sz (.slice p n c) n xs):c≤maxLen:=own_capT h
theorem cntL_len (ts:List Term):ts.length≤cntL ts:=by
 induction ts with
 | nil=>exact Nat.zero_le _
 | cons t ts ih=>have:=cnt_pos t;simp only[cntL,qqA];omega
theorem set_map (ys:List LTerm) (k:Nat) (r:LTerm) (zs:List Term) (h:ys.map LTerm.t=zs) (hr:zs[k]? = some r.t):(ys.set k r).map LTerm.t=zs:=by
 subst h
 rw[List.map_set]
 apply List.ext_getElem?
 intro i
 rw[List.getElem?_set]
 split
 rename_i h;subst h
 split
 exact hr.symm
 rename_i h2;rw[List.getElem?_eq_none (by simpa using h2)]at hr;cases hr
 rfl
theorem cnt_kids (t:LTerm):cnt t.t=1+cntL (t.kids.map LTerm.t):=by rw[t.t_eq,cnt]
theorem encL_set (ys:List LTerm) (i:Nat) (x:LTerm) (h:i < ys.length):(encL ys).take (i*5)++x.cells++(encL ys).drop (i*5+x.cells.length)=encL (ys.set i x):=by
 have e1:(encL ys).take (i*5)=encL (ys.take i):=encL_take ys i
 rw[show i*5+x.cells.length=(i+1)*5 from by simp;omega,encL_drop ys (i+1) (by omega),e1,←encT_cells,←encL_append,←encL_append,List.set_eq_take_append_cons_drop,if_pos h]
 simp
theorem fcopied_c0 (N:Nat):∀ (t:LTerm) (M:Nat→Prop) (w0:World),SizeOf.sizeOf t < N→cnt t.t≤1200→(∀ k,M k→k < w0.heap.size)→Stable M w0 (LtF t)→Ret Tryz.prog 206 [vL t] w0 (fun _=>False) fun v w'=>IsT M w' v t.t:=by
 induction N with
 | zero=>intro t _ _ h;exact absurd h (Nat.not_lt_zero _)
 | succ N ih=>
 intro t M w0 hN hc hM hf
 have hlen:t.kids.length≤1200:=by have h1:=cnt_kids t;have h2:=cntL_len (t.kids.map LTerm.t);rw[List.length_map]at h2;omega
 have hkc:∀ x∈t.kids,cnt x.t≤1200:=fun x hx=>by have h1:=cnt_kids t;have h2:=cntL_mem (List.mem_map.2 ⟨x,hx,rfl⟩:x.t∈t.kids.map LTerm.t);omega
 refine enter Tryz.func206 rfl rfl (Wd.beginM (M:=M) (fs:=[LtF t]) hM (by simpa using hf)) (fun a S=>?_)
 simp only[Tryz.ntmps206,qqA,qqB,Nat.reduceAdd,Nat.reduceSub,qqC,qqD,qqE,qqF]at S
 refine kS (kR ?_);refine sa S ?_;clear S;intro b1 a w S;refine sa S ?_;clear S;intro b2 a w S;refine kN (xtn (kS (kR ?_)));(iterate 2 (refine sq S ?_;clear S;intro a S))
 refine srn S (clone_c t.kids t.p t.kids.length t.cap _ rfl (by omega) (ls_of_lt (S.t0 t))) ?_;clear S;rintro _ a w ⟨p',c',rfl,hown,hnew⟩ hS -
 have S:=hS hown hnew
 clear hS
 refine sq S ?_;clear S;intro a S;refine sw S ?_;clear S;intro a w S;refine kN (xtn (kS (kS (kR ?_))));(iterate 4 (refine sq S ?_;clear S;intro a S));refine kN (xtn (kB ?_))
 refine c_fore2 S (fun(k:Nat) (ys:List LTerm) uu=>[(3,uu 3),(7,.int .i64 (k:Nat)),(0,uu 12),(0,uu 13),(0,uu 14),(0,uu 15),(0,uu 16),(0,uu 17),(0,uu 18),(0,uu 19),(0,uu 20),(0,uu 21),(0,uu 22),(0,uu 23),(0,uu 24)]) (fun(k:Nat) (ys:List LTerm)=>[Wk.row 43 5 p' t.kids.length c' (encL ys),Wk.box b2 43 zeroL.cells,Wk.box b1 43 [.int .i64 t.kind,.int .i64 t.user,.int .i64 t.num,str t.text,.slice p' t.kids.length c'],ext M]) (fun(k:Nat) (ys:List LTerm)=>[AllL ys,LtF t]) (fun(k:Nat) (ys:List LTerm)=>k≤t.kids.length∧ys.length=t.kids.length∧ys.map LTerm.t=t.kids.map LTerm.t∧ys.drop k=t.kids.drop k) (fun(k:Nat) (ys:List LTerm)=>t.kids.length - k) (0) (t.kids) ?_ S.uu ?_ ?_
 ·exact ⟨Nat.zero_le _,rfl,rfl,rfl⟩
 ·exact S.add (Φ:=AllL t.kids) (AllL.stable fun x hx=>kid_st (S.t t) hx)
 ·clear S;rintro k ys uu a w ⟨hk,hyl,hym,hyd⟩ S
  refine kS (kR (sq S ?_));clear S;intro a S;refine kN (xtn (kS ?_))
  refine kC S (fun h3=>?_) (fun h3=>?_)
  ·refine kK (xtn (kS (kB (kS ?_))))
   have hkl:k < t.kids.length:=by simp at h3;omega
   have hK:KLt k t.kids.length:=⟨hkl⟩
   have hyk:ys[k]? = some (nthL t.kids k):=by
    have:=congrArg (fun l=>l[0]?) hyd
    simp only[List.getElem?_drop,Nat.add_zero]at this
    rw[this,nth_get hkl]
   refine kR ?_;(iterate 2 (refine sq S ?_;clear S;intro a S));refine kN (xtn ?_)
   refine c_drwe1 (.q 0 (.q 1 (.q 2 (.q 3 (.q 4 (.q 5 (.l 6 (.l 7 (.l 8 (.l 9 (.l 10 (.e)))))))))))) S (fun(ys':List LTerm) uu=>[(14,uu 14),(0,uu 15),(0,uu 16),(0,uu 17),(0,uu 18),(0,uu 19),(0,uu 20),(0,uu 21),(0,uu 22),(0,uu 23)]) [Wk.box b2 43 zeroL.cells,Wk.box b1 43 [.int .i64 t.kind,.int .i64 t.user,.int .i64 t.num,str t.text,.slice p' t.kids.length c'],ext M] (fun(ys':List LTerm)=>[Wk.row 43 5 p' t.kids.length c' (encL ys'),Wk.box b2 43 zeroL.cells,Wk.box b1 43 [.int .i64 t.kind,.int .i64 t.user,.int .i64 t.num,str t.text,.slice p' t.kids.length c'],ext M]) (fun(ys':List LTerm)=>[AllL ys',LtF t]) (fun(ys':List LTerm)=>ys'.length=t.kids.length∧ys'.map LTerm.t=t.kids.map LTerm.t∧ys'.drop (k+1)=t.kids.drop (k+1)) ?_ ?_
   ·intro w S
    (iterate 6 (refine tq S ?_;clear S;intro a S));refine tl (sq S ?_);clear S;intro a S;refine te S ?_;refine tl ?_
    refine slrA (nthL t.kids k).cells S t.kids.length (fun j v hj=>?_) ?_
    ·have hj5:j < 5:=(List.getElem?_eq_some_iff.1 hj).1
     rw[←hj];exact encL_get ys k _ hyk j hj5
    clear S;intro a S;refine te S ?_;refine tl ?_
    refine sr S (ih (nthL t.kids k) _ w (by have:=LTerm.kid_lt (nth_mem hkl);omega) (hkc _ (nth_mem hkl)) (foots_lt S) (kid_st (S.t t) (nth_mem hkl))) ?_;clear S;rintro _ a w ⟨r,rfl,hr,hrf⟩ S
    replace S:=S.add (Φ:=LtF r) hrf
    refine te S ?_;refine tl (sq S ?_);clear S;intro a S;refine te S ?_;refine tl ?_
    refine sws S t.kids.length (by omega) (by omega) ?_;clear S;intro a w S
    rw[encL_set ys k r (by omega)]at S
    refine te S ?_;refine tn ?_
    refine ⟨ys.set k r,S.uu,⟨by simpa using hyl,set_map ys k r _ hym (by rw[List.getElem?_map,nth_get hkl,hr];rfl),?_⟩,?_⟩
    ·rw[List.drop_set_of_lt (by omega),←List.drop_drop,hyd,List.drop_drop]
    ·have h1:Stable _ _ (AllL ys):=S.wd.facts (AllL ys) (by simp)
     have h2:=S.t r
     replace S:=S.add (Φ:=AllL (ys.set k r)) (fun w' hw' x hx=>by
      rcases List.mem_or_eq_of_mem_set hx with h | rfl
      ·exact h1 w' hw' x h
      ·exact h2 w' hw')
     exact S.sub _ _
   clear S;rintro ys' uu a w ⟨hyl',hym',hyd'⟩ S
   refine xbn (xtn (kR ?_));(iterate 2 (refine sq S ?_;clear S;intro a S));refine kN (xtn ?_)
   rw[w64 ((k:Int)+1) (by omega) (by omega)]at S
   exact ⟨k+1,ys',S.uu,⟨hkl,hyl',hym',hyd'⟩,S.sub _ _,by omega⟩
  ·refine kE (xte (xte (xbe (xtn (kS (kR (sq S ?_)))))));clear S;intro a S;refine sw S ?_;clear S;intro a w S;refine kN (xtn (kT ?_))
   have hrow:=S.row p' t.kids.length
   have hnew:=S.rowNew p' t.kids.length
   have hall:=S.laterFact (Φ:=AllL ys) (by simp)
   refine end1 S (fun _=>?_)
   refine ⟨.mk t.kind t.user t.num t.text p' c' ys,by simp only[vL,LTerm.kind,LTerm.user,LTerm.num,LTerm.text,LTerm.p,LTerm.cap,LTerm.kids,hyl],?_,fun w' hw'=>?_⟩
   ·rw[t.t_eq,←hym];exact LTerm.t_eq _
   ·have hls:=ls_of_own hrow (fun x hx=>AllL.get hall hx) (fun ad h hm=>(hnew ad h).elim id (fun h2=>by have:=hM _ hm;omega))
    exact ⟨by rw[hyl];exact own_le hrow,own_cap hrow,hls w' hw'⟩
theorem fcopied_c (t:LTerm) (M:Nat→Prop) (w0:World) (hc:cnt t.t≤1200) (hM:∀ k,M k→k < w0.heap.size) (hf:Stable M w0 (LtF t)):Ret Tryz.prog 206 [vL t] w0 (fun _=>False) fun v w'=>IsT M w' v t.t:=fcopied_c0 _ t M w0 (Nat.lt_succ_self _) hc hM hf
def findP:List PSeen→Int→Option PSeen
 | [],_=>none
 | s::l,u=>if s.user=u then some s else findP l u
theorem findP_some:∀ (l:List LSeen) (u:Int) (i:Nat),i < l.length→(nthG l i).user=u→(∀ a,a < i→(nthG l a).user≠u)→findP (ssP l) u=some (nthG l i).s
 | x::l,u,0,_,he,_=>by
  show (if x.user=u then some x.s else _)=_
  rw[if_pos (show x.user=u from he)];rfl
 | x::l,u,i+1,hi,he,hn=>by
  show (if x.user=u then some x.s else _)=_
  rw[if_neg (show ¬x.user=u from hn 0 (by omega))]
  exact findP_some l u i (by simpa using hi) he (fun a ha=>hn (a+1) (by omega))
theorem findP_none:∀ (l:List LSeen) (u:Int),(∀ a,a < l.length→(nthG l a).user≠u)→findP (ssP l) u=none
 | [],_,_=>rfl
 | x::l,u,hn=>by
  show (if x.user=u then some x.s else _)=_
  rw[if_neg (show ¬x.user=u from hn 0 (by simp))]
  exact findP_none l u (fun a ha=>hn (a+1) (by simpa using ha))
theorem seenB_up:∀ (l:List LSeen) (k:Int),seenB k (ssP l)=true→(∀ a,a < l.length→k < (nthG l a).user)∧(∀ a c,a < c→c < l.length→(nthG l a).user < (nthG l c).user)∧∀ a,a < l.length→checkF (nthG l a).root.t=0
 | [],_,_=>⟨fun a h=>by simp at h,fun a c _ h=>by simp at h,fun a h=>by simp at h⟩
 | x::l,k,h=>by
  replace h:(decide (k < x.user)&&knownF x.user&&cntS x.cnt&&decide (checkF x.root.t=0)&&seenB x.user (ssP l))=true:=h
  simp only[Bool.and_eq_true,decide_eq_true_eq]at h
  obtain ⟨⟨⟨⟨h1,-⟩,-⟩,h2⟩,h3⟩:=h
  obtain ⟨i1,i2,i3⟩:=seenB_up l x.user h3
  refine ⟨fun a ha=>?_,fun a c hac hc=>?_,fun a ha=>?_⟩
  cases a with
  | zero=>exact h1
  | succ a=>exact Int.lt_trans h1 (i1 a (by simpa using ha))
  cases c with
  | zero=>omega
  | succ c=>
   cases a with
   | zero=>exact i1 c (by simpa using hc)
   | succ a=>exact i2 a c (by omega) (by simpa using hc)
  cases a with
  | zero=>exact h2
  | succ a=>exact i3 a (by simpa using ha)
theorem findS_at {l:List LSeen} {u:Int} {i:Nat} {b:Bool} (h:AtS l u i b) (hs:seenB 0 (ssP l)=true):(b=true→i < l.length∧(nthG l i).user=u∧findP (ssP l) u=some (nthG l i).s)∧(b=false→findP (ssP l) u=none):=by
 obtain ⟨h1,h2,h3⟩:=h
 obtain ⟨h4,h5⟩:=h3 (seenB_up l 0 hs).2.1
 constructor
 intro hb
 rw[h2,Bool.and_eq_true,decide_eq_true_eq,decide_eq_true_eq]at hb
 exact ⟨by omega,hb.2,findP_some l u i (by omega) hb.2 fun a ha=>by have:=h4 a ha;omega⟩
 intro hb
 refine findP_none l u fun a ha he=>?_
 rcases Nat.lt_or_ge a i with h | h
 have:=h4 a h;omega
 have h6:=h5 i (Nat.le_refl _)
 rcases Nat.eq_or_lt_of_le h with rfl | h7
 rw[h2,he,decide_eq_true (show (i:Int) < (l.length:Int) by omega),decide_eq_true rfl]at hb
 cases hb
 have:=(seenB_up l 0 hs).2.1 i a h7 ha
 have:=h6 (by omega);omega
def zeroS:LSeen:=⟨0,0,zeroL⟩
def FindSR (M:Nat→Prop) (l:List LSeen) (u:Int) (v:Value) (w:World):Prop:=∃ (s:LSeen) (b:Bool),v=.tuple ⟨[.agg ⟨cSeen s⟩,.bool b]⟩∧Stable M w (LtF s.root)∧(seenB 0 (ssP l)=true→findP (ssP l) u=if b then some s.s else none)∧(b=false→s=zeroS)
theorem ffindX_c (l:List LSeen) (p:Option Addr) (n c:Nat) (u:Int) (M:Nat→Prop) (w0:World) (hn:l.length=n) (hl:n≤1000000) (hM:∀ k,M k→k < w0.heap.size) (hx:Stable M w0 (GlF p l)) :
  Ret Tryz.prog 120 [.slice p n c,.int .i64 u] w0 (fun _=>False) fun v w'=>FindSR M l u v w':=by
 subst hn
 have hL3:LeC l.length 1000000:=⟨hl⟩
 refine enter Tryz.func120 rfl rfl (Wd.beginM (M:=M) (fs:=[GlF p l]) hM (by simpa using hx)) (fun a S=>?_)
 simp only[Tryz.ntmps120,qqA,qqB,Nat.reduceAdd,Nat.reduceSub,qqC,qqD,qqE,qqF]at S
 refine kS (kR ?_);refine sa S ?_;clear S;intro b4 a w S;refine sq S ?_;clear S;intro a S;refine kN (xtn (kS (kR ?_)));(iterate 2 (refine sq S ?_;clear S;intro a S))
 refine sr S (ffindK_c l p c u _ hl (S.gl0 p)) ?_;clear S;rintro _ a w ⟨i,b,rfl,hib⟩ S
 (iterate 5 (refine sq S ?_;clear S;intro a S));refine kN (xtn (kS (kS (kR (sq S ?_)))));clear S;intro a S;refine sc S ?_;clear S;intro a w S;refine sq S ?_;clear S;intro a S
 rw[fchk_dec]at S
 refine sq S ?_;clear S;intro a S;(iterate 2 (refine gQ S ?_;clear S;intro a S));refine sq S ?_;clear S;intro a S;refine kN (xtn ?_)
 refine kC S (fun h2=>?_) (fun h2=>?_)
 refine kS (kR (sq S ?_));clear S;intro a S;refine sw S ?_;clear S;intro a w S;refine sq S ?_;clear S;intro a S;refine kN (xtn (kT (xtr ?_)))
 refine end2 S (fun _=>⟨zeroS,false,rfl,fun _ _=>zeroL_in _,fun hs=>?_,fun _=>rfl⟩)
 rw[hs,Bool.not_true,Bool.false_or]at h2
 exact (findS_at hib hs).2 (by simpa using h2)
 refine kK (xtn (kS ?_))
 have hs:seenB 0 (ssP l)=true∧b=true:=by simpa using h2
 obtain ⟨hil,hui,hfi⟩:=(findS_at hib hs.1).1 hs.2
 have hK:KLt i l.length:=⟨hil⟩
 have hg:=good_check.1 ((seenB_up l 0 hs.1).2.2 i hil)
 refine kR ?_;(iterate 4 (refine sq S ?_;clear S;intro a S));refine sa S ?_;clear S;intro b8 a w S;refine sw S ?_;clear S;intro a w S;refine kN (xtn (kS (kR ?_)));(iterate 2 (refine sq S ?_;clear S;intro a S))
 replace S:=S.add (Φ:=LtF (nthG l i).root) ((S.mem.fact (GlF p l)).imp fun _ h=>h.2 _ (nthG_mem hil))
 refine sr S (fcopied_c (nthG l i).root _ w (good_le hg) (foots_lt S) (S.t (nthG l i).root)) ?_;clear S;rintro _ a w ⟨r,rfl,hr,hrf⟩ S
 replace S:=S.add hrf
 refine sq S ?_;clear S;intro a S;refine sw S ?_;clear S;intro a w S;refine kN (xtn (kS (kR (sq S ?_))));clear S;intro a S;refine sw S ?_;clear S;intro a w S;refine sq S ?_;clear S;intro a S;refine kN (xtn (kT ?_))
 have hlat:=S.laterT (M:=M) r
 refine end2 S (fun _=>⟨⟨(nthG l i).user,(nthG l i).cnt,r⟩,true,rfl,hlat,fun _=>?_,nofun⟩)
 rw[hfi,if_pos rfl,LSeen.s,LSeen.s,hr]
theorem sindex_c (xs:List LMark) (p:Option Addr) (n c:Nat) (y:LMark) (w0:World) (hn:xs.length=n) (hl:n≤1000000) (hx:Stable (fun _=>False) w0 (GlF p xs)) :
  Ret Tryz.prog 204 [.slice p n c,.agg ⟨[str y.key,.int .i64 y.ver]⟩] w0 (fun _=>False) fun v _=>∃ i:Int,v=.int .i64 i∧decide (0≤i)=decide (y∈xs):=by
 subst hn
 refine enter Tryz.func204 rfl rfl (Wd.begin (fs:=[GlF p xs]) (by simpa using hx)) (fun a S=>?_)
 simp only[Tryz.ntmps204,qqA,qqB,Nat.reduceAdd,Nat.reduceSub,qqC,qqD,qqE,qqF]at S
 refine kS (kR ?_);refine sa S ?_;clear S;intro b3 a w S;refine sq S ?_;clear S;intro a S;refine kN (xtn (kS (kS (kR ?_))));(iterate 3 (refine sq S ?_;clear S;intro a S));refine kN (xtn (kB ?_))
 refine c_forb1 S (fun(k:Nat) uu=>[(4,uu 4),(0,uu 5),(2,.int .i64 (k:Nat)),(0,uu 9),(0,uu 10),(0,uu 11),(0,uu 12),(0,uu 13),(0,uu 14),(0,uu 15),(0,uu 16),(0,uu 17),(0,uu 18)]) (fun(k:Nat)=>k≤xs.length∧∀ a,a < k→nthG xs a≠y) (fun(k:Nat)=>xs.length - k) (0) ?_ S.uu ?_ ?_
 exact ⟨Nat.zero_le _,fun a h=>absurd h (Nat.not_lt_zero a)⟩
 first | exact S | exact S.sub _ _
 clear S;rintro k uu a w ⟨hk,hno⟩ S
 refine kS (kR (sq S ?_));clear S;intro a S;refine kN (xtn (kS ?_))
 refine kC S (fun h2=>?_) (fun h2=>?_)
 refine kK (xtn (kS (kB (kS (kR ?_)))));(iterate 2 (refine sq S ?_;clear S;intro a S));refine kN (xtn (kS ?_))
 have hkl:k < xs.length:=by simp at h2;omega
 have hK:KLt k xs.length:=⟨hkl⟩
 refine c_drawD [(0,true),(1,true),(2,true),(3,true),(4,true),(5,true)] [] S ?_;clear S;intro w S;(iterate 6 (refine dq S ?_;clear S;intro a S));refine dn (xtn ?_)
 refine kC S (fun h4=>?_) (fun h4=>?_)
 refine kS (kR ?_);(iterate 2 (refine sq S ?_;clear S;intro a S));refine kN (xtn (kT (xbr (xtr (xtr (xbr (xtr ?_)))))))
 have he:y=nthG xs k:=of_decide_eq_true h4
 refine end1 S (fun _=>⟨(k:Int),rfl,?_⟩)
 rw[decide_eq_true (show (0:Int)≤(k:Int) by omega),decide_eq_true (show y∈xs from he▸nthG_mem hkl)]
 refine kK (xbn (xtn (kR ?_)));(iterate 2 (refine sq S ?_;clear S;intro a S));refine kN (xtn ?_)
 rw[w64 ((k:Int)+1) (by omega) (by omega)]at S
 refine ⟨k+1,S.uu,⟨hkl,fun a ha=>?_⟩,S.sub _ _,by omega⟩
 rcases Nat.lt_succ_iff_lt_or_eq.1 ha with h | rfl
 exact hno a h
 exact fun h=>(of_decide_eq_false h4) h.symm
 refine kE (xte (xte (xbe (xtn (kS (kR (sq S ?_)))))));clear S;intro a S;refine kN (xtn (kT ?_))
 refine end1 S (fun _=>⟨-1,rfl,?_⟩)
 rw[decide_eq_false (show ¬(0:Int)≤-1 by omega),decide_eq_false]
 intro hm
 obtain ⟨a,ha,he⟩:=List.mem_iff_getElem.1 hm
 have h3:=nthG_get ha
 rw[List.getElem?_eq_getElem ha]at h3
 exact hno a (by simp at h2;omega) ((Option.some.inj h3).symm.trans he)
theorem scontains_c (xs:List LMark) (p:Option Addr) (n c:Nat) (y:LMark) (w0:World) (hn:xs.length=n) (hl:n≤1000000) (hx:Stable (fun _=>False) w0 (GlF p xs)) :
  Ret Tryz.prog 118 [.slice p n c,.agg ⟨[str y.key,.int .i64 y.ver]⟩] w0 (fun _=>False) fun v _=>v=.bool (decide (y∈xs)):=by
 refine enter Tryz.func118 rfl rfl (Wd.begin (fs:=[GlF p xs]) (by simpa using hx)) (fun a S=>?_)
 simp only[Tryz.ntmps118,qqA,qqB,Nat.reduceAdd,Nat.reduceSub,qqC,qqD,qqE,qqF]at S
 refine kS (kR ?_);refine sa S ?_;clear S;intro b3 a w S;refine sq S ?_;clear S;intro a S;refine kN (xtn (kS (kR ?_)));(iterate 2 (refine sq S ?_;clear S;intro a S))
 refine sr S (sindex_c xs p n c y _ hn hl (S.gl0 p)) ?_;clear S;rintro _ a w ⟨i,rfl,hi⟩ S
 (iterate 2 (refine sq S ?_;clear S;intro a S));refine kN (xtn (kT ?_))
 exact end1 S (fun _=>by rw[hi])
theorem indexSd_c (F:Nat) [EntF Tryz.prog F] (ca:List Value) (q:LMark→Bool) (xs:List LMark) (p:Option Addr) (n c:Nat) (w0:World) (hn:xs.length=n) (hl:n≤9223372036854775807) (hx:Stable (fun _=>False) w0 (GlF p xs))
  (hF:∀ x∈xs,∀ w,Agree (fun _=>False) w0 w→Ret Tryz.prog F (.agg ⟨[str x.key,.int .i64 x.ver]⟩::ca) w (fun _=>False) fun v _=>v=.bool (q x)) :
  Ret Tryz.prog 252 [.slice p n c,.func (.func F) #[] ⟨ca⟩] w0 (fun _=>False) fun v _=>v=.int .i64 (idxG q xs 0):=by
 refine enter Tryz.func252 rfl rfl (Wd.begin (fs:=[GlF p xs]) (by simpa using hx)) (fun a S=>?_)
 simp only[Tryz.ntmps252,qqA,qqB,Nat.reduceAdd,Nat.reduceSub,qqC,qqD,qqE,qqF]at S
 refine kS (kR (sq S ?_));clear S;intro a S;refine kN (xtn (kS (kS (kR ?_))));(iterate 3 (refine sq S ?_;clear S;intro a S));refine kN (xtn (kB ?_))
 refine c_forb1 S (fun(k:Nat) uu=>[(4,uu 4),(0,uu 5),(2,.int .i64 (k:Nat)),(0,uu 9),(0,uu 10),(0,uu 11),(0,uu 12),(0,uu 13),(0,uu 14),(0,uu 15),(0,uu 16),(0,uu 17),(0,uu 18)]) (fun(k:Nat)=>k≤n∧idxG q (xs.drop k) k=idxG q xs 0) (fun(k:Nat)=>n - k) (0) ?_ S.uu ?_ ?_
 exact ⟨Nat.zero_le _,rfl⟩
 first | exact S | exact S.sub _ _
 clear S;rintro k uu a w ⟨hk,hrel⟩ S
 refine kS (kR (sq S ?_));clear S;intro a S;refine kN (xtn (kS ?_))
 refine kC S (fun h2=>?_) (fun h2=>?_)
 refine kK (xtn (kS (kB (kS (kR ?_)))));(iterate 2 (refine sq S ?_;clear S;intro a S));refine kN (xtn (kS ?_))
 have hkl:k < n:=by simp at h2;omega
 have hK:KLt k n:=⟨hkl⟩
 have hK2:KLt k xs.length:=⟨by omega⟩
 rw[nthG_drop (show k < xs.length by omega),idxG]at hrel
 refine kR ?_;(iterate 5 (refine sq S ?_;clear S;intro a S))
 refine sr S (hF (nthG xs k) (nthG_mem (by omega)) w S.wd.agree) ?_;clear S;rintro _ a w rfl S
 refine kN (xtn ?_)
 refine kC S (fun h4=>?_) (fun h4=>?_)
 refine kS (kR ?_);(iterate 2 (refine sq S ?_;clear S;intro a S));refine kN (xtn (kT (xbr (xtr (xtr (xbr (xtr ?_)))))))
 rw[if_pos h4]at hrel
 refine end1 S (fun _=>?_)
 rw[hrel]
 refine kK (xbn (xtn (kR ?_)));(iterate 2 (refine sq S ?_;clear S;intro a S));refine kN (xtn ?_)
 rw[if_neg (by simpa using h4)]at hrel
 rw[w64 ((k:Int)+1) (by omega) (by omega)]at S
 exact ⟨k+1,S.uu,⟨hkl,by rw[←hrel];rfl⟩,S.sub _ _,by omega⟩
 refine kE (xte (xte (xbe (xtn (kS (kR (sq S ?_)))))));clear S;intro a S;refine kN (xtn (kT ?_))
 rw[List.drop_of_length_le (by simp at h2;omega)]at hrel
 refine end1 S (fun _=>?_)
 rw[←hrel];rfl
theorem containsSd_c (F:Nat) [EntF Tryz.prog F] (ca:List Value) (q:LMark→Bool) (xs:List LMark) (p:Option Addr) (n c:Nat) (w0:World) (hn:xs.length=n) (hl:n≤9223372036854775807) (hx:Stable (fun _=>False) w0 (GlF p xs))
  (hF:∀ x∈xs,∀ w,Agree (fun _=>False) w0 w→Ret Tryz.prog F (.agg ⟨[str x.key,.int .i64 x.ver]⟩::ca) w (fun _=>False) fun v _=>v=.bool (q x)) :
  Ret Tryz.prog 208 [.slice p n c,.func (.func F) #[] ⟨ca⟩] w0 (fun _=>False) fun v _=>v=.bool (xs.any q):=by
 refine enter Tryz.func208 rfl rfl (Wd.begin (fs:=[GlF p xs]) (by simpa using hx)) (fun a S=>?_)
 simp only[Tryz.ntmps208,qqA,qqB,Nat.reduceAdd,Nat.reduceSub,qqC,qqD,qqE,qqF]at S
 refine kS (kR (sq S ?_));clear S;intro a S;refine kN (xtn (kS (kR ?_)));(iterate 2 (refine sq S ?_;clear S;intro a S))
 refine sr S (indexSd_c F ca q xs p n c _ hn hl (S.gl0 p) fun x hx w' hw'=>hF x hx w' (S.wd.agree.trans hw')) ?_;clear S;rintro _ a w rfl S
 (iterate 2 (refine sq S ?_;clear S;intro a S));refine kN (xtn (kT ?_))
 refine end1 S (fun _=>?_)
 rw[idxG_any q xs 0 (by omega)]
theorem indexSn_c (F:Nat) [EntF Tryz.prog F] (ca:List Value) (q:LSeen→Bool) (xs:List LSeen) (p:Option Addr) (n c:Nat) (w0:World) (hn:xs.length=n) (hl:n≤9223372036854775807) (hx:Stable (fun _=>False) w0 (GlF p xs))
  (hF:∀ x∈xs,∀ w,Agree (fun _=>False) w0 w→Ret Tryz.prog F (.agg ⟨cSeen x⟩::ca) w (fun _=>False) fun v _=>v=.bool (q x)) :
  Ret Tryz.prog 254 [.slice p n c,.func (.func F) #[] ⟨ca⟩] w0 (fun _=>False) fun v _=>v=.int .i64 (idxG q xs 0):=by
 refine enter Tryz.func254 rfl rfl (Wd.begin (fs:=[GlF p xs]) (by simpa using hx)) (fun a S=>?_)
 simp only[Tryz.ntmps254,qqA,qqB,Nat.reduceAdd,Nat.reduceSub,qqC,qqD,qqE,qqF]at S
 refine kS (kR (sq S ?_));clear S;intro a S;refine kN (xtn (kS (kS (kR ?_))));(iterate 3 (refine sq S ?_;clear S;intro a S));refine kN (xtn (kB ?_))
 refine c_forb1 S (fun(k:Nat) uu=>[(4,uu 4),(0,uu 5),(2,.int .i64 (k:Nat)),(0,uu 9),(0,uu 10),(0,uu 11),(0,uu 12),(0,uu 13),(0,uu 14),(0,uu 15),(0,uu 16),(0,uu 17),(0,uu 18)]) (fun(k:Nat)=>k≤n∧idxG q (xs.drop k) k=idxG q xs 0) (fun(k:Nat)=>n - k) (0) ?_ S.uu ?_ ?_
 exact ⟨Nat.zero_le _,rfl⟩
 first | exact S | exact S.sub _ _
 clear S;rintro k uu a w ⟨hk,hrel⟩ S
 refine kS (kR (sq S ?_));clear S;intro a S;refine kN (xtn (kS ?_))
 refine kC S (fun h2=>?_) (fun h2=>?_)
 refine kK (xtn (kS (kB (kS (kR ?_)))));(iterate 2 (refine sq S ?_;clear S;intro a S));refine kN (xtn (kS ?_))
 have hkl:k < n:=by simp at h2;omega
 have hK:KLt k n:=⟨hkl⟩
 have hK2:KLt k xs.length:=⟨by omega⟩
 rw[nthG_drop (show k < xs.length by omega),idxG]at hrel
 refine kR ?_;(iterate 5 (refine sq S ?_;clear S;intro a S))
 refine sr S (hF (nthG xs k) (nthG_mem (by omega)) w S.wd.agree) ?_;clear S;rintro _ a w rfl S
 refine kN (xtn ?_)
 refine kC S (fun h4=>?_) (fun h4=>?_)
 refine kS (kR ?_);(iterate 2 (refine sq S ?_;clear S;intro a S));refine kN (xtn (kT (xbr (xtr (xtr (xbr (xtr ?_)))))))
 rw[if_pos h4]at hrel
 refine end1 S (fun _=>?_)
 rw[hrel]
 refine kK (xbn (xtn (kR ?_)));(iterate 2 (refine sq S ?_;clear S;intro a S));refine kN (xtn ?_)
 rw[if_neg (by simpa using h4)]at hrel
 rw[w64 ((k:Int)+1) (by omega) (by omega)]at S
 exact ⟨k+1,S.uu,⟨hkl,by rw[←hrel];rfl⟩,S.sub _ _,by omega⟩
 refine kE (xte (xte (xbe (xtn (kS (kR (sq S ?_)))))));clear S;intro a S;refine kN (xtn (kT ?_))
 rw[List.drop_of_length_le (by simp at h2;omega)]at hrel
 refine end1 S (fun _=>?_)
 rw[←hrel];rfl
theorem containsSn_c (F:Nat) [EntF Tryz.prog F] (ca:List Value) (q:LSeen→Bool) (xs:List LSeen) (p:Option Addr) (n c:Nat) (w0:World) (hn:xs.length=n) (hl:n≤9223372036854775807) (hx:Stable (fun _=>False) w0 (GlF p xs))
  (hF:∀ x∈xs,∀ w,Agree (fun _=>False) w0 w→Ret Tryz.prog F (.agg ⟨cSeen x⟩::ca) w (fun _=>False) fun v _=>v=.bool (q x)) :
  Ret Tryz.prog 213 [.slice p n c,.func (.func F) #[] ⟨ca⟩] w0 (fun _=>False) fun v _=>v=.bool (xs.any q):=by
 refine enter Tryz.func213 rfl rfl (Wd.begin (fs:=[GlF p xs]) (by simpa using hx)) (fun a S=>?_)
 simp only[Tryz.ntmps213,qqA,qqB,Nat.reduceAdd,Nat.reduceSub,qqC,qqD,qqE,qqF]at S
 refine kS (kR (sq S ?_));clear S;intro a S;refine kN (xtn (kS (kR ?_)));(iterate 2 (refine sq S ?_;clear S;intro a S))
 refine sr S (indexSn_c F ca q xs p n c _ hn hl (S.gl0 p) fun x hx w' hw'=>hF x hx w' (S.wd.agree.trans hw')) ?_;clear S;rintro _ a w rfl S
 (iterate 2 (refine sq S ?_;clear S;intro a S));refine kN (xtn (kT ?_))
 refine end1 S (fun _=>?_)
 rw[idxG_any q xs 0 (by omega)]
theorem allSd1_c (F:Nat) [EntF Tryz.prog F] (ca:List Value) (q:LMark→Bool) (b:Nat) (x:LMark) (w0:World) (hb:Stable (fun _=>False) w0 (BoxF b 192 [.func (.func F) #[] ⟨ca⟩])) (hF:∀ w,Agree (fun _=>False) w0 w→Ret Tryz.prog F (.agg ⟨[str x.key,.int .i64 x.ver]⟩::ca) w (fun _=>False) fun v _=>v=.bool (q x)) :
  Ret Tryz.prog 209 [.agg ⟨[str x.key,.int .i64 x.ver]⟩,.pointer (some ⟨b,0,none⟩)] w0 (fun _=>False) fun v _=>v=.bool (!q x):=by
 refine enter Tryz.func209 rfl rfl (Wd.begin (fs:=[BoxF b 192 [.func (.func F) #[] ⟨ca⟩]]) (by simpa using hb)) (fun a S=>?_)
 simp only[Tryz.ntmps209,qqA,qqB,Nat.reduceAdd,Nat.reduceSub,qqC,qqD,qqE,qqF]at S
 refine kS (kR ?_);refine sa S ?_;clear S;intro b2 a w S;refine sq S ?_;clear S;intro a S;refine kN (xtn (kS (kR ?_)));(iterate 2 (refine sq S ?_;clear S;intro a S));refine sr S (hF w S.wd.agree) ?_;clear S;rintro _ a w rfl S;(iterate 2 (refine sq S ?_;clear S;intro a S));refine kN (xtn (kT ?_))
 exact end1 S (fun _=>rfl)
theorem allSd_c (F:Nat) [EntF Tryz.prog F] (ca:List Value) (q:LMark→Bool) (xs:List LMark) (p:Option Addr) (n c:Nat) (w0:World) (hn:xs.length=n) (hl:n≤1000000) (hx:Stable (fun _=>False) w0 (GlF p xs)) (hF:∀ x∈xs,∀ w,Agree (fun _=>False) w0 w→Ret Tryz.prog F (.agg ⟨[str x.key,.int .i64 x.ver]⟩::ca) w (fun _=>False) fun v _=>v=.bool (q x)) :
  Ret Tryz.prog 122 [.slice p n c,.func (.func F) #[] ⟨ca⟩] w0 (fun _=>False) fun v _=>v=.bool (xs.all q):=by
 refine enter Tryz.func122 rfl rfl (Wd.begin (fs:=[GlF p xs]) (by simpa using hx)) (fun a S=>?_)
 simp only[Tryz.ntmps122,qqA,qqB,Nat.reduceAdd,Nat.reduceSub,qqC,qqD,qqE,qqF]at S
 refine kS (kR ?_);refine sa S ?_;clear S;intro b3 a w S;refine sq S ?_;clear S;intro a S;refine kN (xtn (kS (kR ?_)));(iterate 2 (refine sq S ?_;clear S;intro a S))
 have hbx:=BoxF.stable (M:=fun _=>False) (S.boxF b3) (fun h=>h)
 have hag:=S.wd.agree
 refine sr S (containsSd_c 209 [.pointer (some ⟨b3,0,none⟩)] (fun x=>!q x) xs p n c _ hn (by omega) (S.gl0 p) (fun x hx w' hw'=>allSd1_c F ca q b3 x w' (hbx.later hw') (fun w2 hw2=>hF x hx w2 (hag.trans (hw'.trans hw2))))) ?_;clear S;rintro _ a w rfl S
 (iterate 2 (refine sq S ?_;clear S;intro a S));refine kN (xtn (kT ?_))
 refine end1 S (fun _=>?_)
 rw[not_any_not]
theorem allSn1_c (F:Nat) [EntF Tryz.prog F] (ca:List Value) (q:LSeen→Bool) (b:Nat) (x:LSeen) (w0:World) (hb:Stable (fun _=>False) w0 (BoxF b 196 [.func (.func F) #[] ⟨ca⟩])) (hF:∀ w,Agree (fun _=>False) w0 w→Ret Tryz.prog F (.agg ⟨cSeen x⟩::ca) w (fun _=>False) fun v _=>v=.bool (q x)) :
  Ret Tryz.prog 214 [.agg ⟨cSeen x⟩,.pointer (some ⟨b,0,none⟩)] w0 (fun _=>False) fun v _=>v=.bool (!q x):=by
 refine enter Tryz.func214 rfl rfl (Wd.begin (fs:=[BoxF b 196 [.func (.func F) #[] ⟨ca⟩]]) (by simpa using hb)) (fun a S=>?_)
 simp only[Tryz.ntmps214,qqA,qqB,Nat.reduceAdd,Nat.reduceSub,qqC,qqD,qqE,qqF]at S
 refine kS (kR ?_);refine sa S ?_;clear S;intro b2 a w S;refine sq S ?_;clear S;intro a S;refine kN (xtn (kS (kR ?_)));(iterate 2 (refine sq S ?_;clear S;intro a S));refine sr S (hF w S.wd.agree) ?_;clear S;rintro _ a w rfl S;(iterate 2 (refine sq S ?_;clear S;intro a S));refine kN (xtn (kT ?_))
 exact end1 S (fun _=>rfl)
theorem allSn_c (F:Nat) [EntF Tryz.prog F] (ca:List Value) (q:LSeen→Bool) (xs:List LSeen) (p:Option Addr) (n c:Nat) (w0:World) (hn:xs.length=n) (hl:n≤1000000) (hx:Stable (fun _=>False) w0 (GlF p xs)) (hF:∀ x∈xs,∀ w,Agree (fun _=>False) w0 w→Ret Tryz.prog F (.agg ⟨cSeen x⟩::ca) w (fun _=>False) fun v _=>v=.bool (q x)) :
  Ret Tryz.prog 124 [.slice p n c,.func (.func F) #[] ⟨ca⟩] w0 (fun _=>False) fun v _=>v=.bool (xs.all q):=by
 refine enter Tryz.func124 rfl rfl (Wd.begin (fs:=[GlF p xs]) (by simpa using hx)) (fun a S=>?_)
 simp only[Tryz.ntmps124,qqA,qqB,Nat.reduceAdd,Nat.reduceSub,qqC,qqD,qqE,qqF]at S
 refine kS (kR ?_);refine sa S ?_;clear S;intro b3 a w S;refine sq S ?_;clear S;intro a S;refine kN (xtn (kS (kR ?_)));(iterate 2 (refine sq S ?_;clear S;intro a S))
 have hbx:=BoxF.stable (M:=fun _=>False) (S.boxF b3) (fun h=>h)
 have hag:=S.wd.agree
 refine sr S (containsSn_c 214 [.pointer (some ⟨b3,0,none⟩)] (fun x=>!q x) xs p n c _ hn (by omega) (S.gl0 p) (fun x hx w' hw'=>allSn1_c F ca q b3 x w' (hbx.later hw') (fun w2 hw2=>hF x hx w2 (hag.trans (hw'.trans hw2))))) ?_;clear S;rintro _ a w rfl S
 (iterate 2 (refine sq S ?_;clear S;intro a S));refine kN (xtn (kT ?_))
 refine end1 S (fun _=>?_)
 rw[not_any_not]
def covS (now:List PSeen) (s:PSeen):Bool:=match findP now s.user with
 | none=>false
 | some x=>if x.cnt=s.cnt then sameF x.root s.root else decide (s.cnt < x.cnt)
theorem mcov1_c (b:Nat) (m:LMem) (x:LMark) (w0:World) (hl:m.seeds.length≤1000000) (hb:Stable (fun _=>False) w0 (BoxF b 67 (cMem m))) (hx:Stable (fun _=>False) w0 (GlF m.sp m.seeds)) :
  Ret Tryz.prog 117 [.agg ⟨[str x.key,.int .i64 x.ver]⟩,.pointer (some ⟨b,0,none⟩)] w0 (fun _=>False) fun v _=>v=.bool (decide (x∈m.seeds)):=by
 refine enter Tryz.func117 rfl rfl (Wd.begin (fs:=[BoxF b 67 (cMem m),GlF m.sp m.seeds]) (by simp;exact ⟨hb,hx⟩)) (fun a S=>?_)
 simp only[Tryz.ntmps117,qqA,qqB,Nat.reduceAdd,Nat.reduceSub,qqC,qqD,qqE,qqF]at S
 refine kS (kR ?_);refine sa S ?_;clear S;intro b2 a w S;refine sq S ?_;clear S;intro a S;refine kN (xtn (kS (kR ?_)));(iterate 3 (refine sq S ?_;clear S;intro a S));refine sr S (scontains_c m.seeds m.sp m.seeds.length m.sc x _ rfl hl (S.gl0 m.sp)) ?_;clear S;rintro _ a w rfl S;refine sq S ?_;clear S;intro a S;refine kN (xtn (kT ?_))
 exact end1 S (fun _=>rfl)
theorem cmpI_one {x y:Int} : decide (cmpI x y=1)=decide (y < x):=by
 unfold cmpI;split
 rename_i h;rw[decide_eq_false (show ¬y < x by omega)];rfl
 split
 rename_i h;rw[decide_eq_true h];rfl
 rename_i h;rw[decide_eq_false h];rfl
theorem mcov2_c (b:Nat) (m:LMem) (s:LSeen) (w0:World) (hl:m.seen.length≤1000000) (hs:seenB 0 (ssP m.seen)=true) (_hc:1≤s.cnt) (hb:Stable (fun _=>False) w0 (BoxF b 67 (cMem m))) (hx:Stable (fun _=>False) w0 (GlF m.ep m.seen)) (hr:Stable (fun _=>False) w0 (LtF s.root)) :
  Ret Tryz.prog 119 [.agg ⟨cSeen s⟩,.pointer (some ⟨b,0,none⟩)] w0 (fun _=>False) fun v _=>v=.bool (covS (ssP m.seen) s.s):=by
 refine enter Tryz.func119 rfl rfl (Wd.begin (fs:=[BoxF b 67 (cMem m),GlF m.ep m.seen,LtF s.root]) (by simp;exact ⟨hb,hx,hr⟩)) (fun a S=>?_)
 simp only[Tryz.ntmps119,qqA,qqB,Nat.reduceAdd,Nat.reduceSub,qqC,qqD,qqE,qqF]at S
 refine kS (kR ?_);refine sa S ?_;clear S;intro b2 a w S;refine sq S ?_;clear S;intro a S;refine kN (xtn (kS (kR ?_)));(iterate 4 (refine sq S ?_;clear S;intro a S))
 refine sr S (ffindX_c m.seen m.ep m.seen.length m.ec s.user _ w rfl hl (foots_lt S) (S.mem.fact (GlF m.ep m.seen))) ?_;clear S;rintro _ a w ⟨x,ok,rfl,hxf,hfi,hno⟩ S
 replace S:=S.add hxf
 have hcov:covS (ssP m.seen) s.s=(ok&&if x.cnt=s.cnt then sameF x.root.t s.root.t else decide (s.cnt < x.cnt)):=by
  rw[covS,show s.s.user=s.user from rfl,hfi hs]
  cases ok with
  | false=>rfl
  | true=>rfl
 have hz:ok=false→x.cnt=0:=fun h=>by rw[hno h];rfl
 (iterate 3 (refine sq S ?_;clear S;intro a S));refine sa S ?_;clear S;intro b4 a w S;refine sw S ?_;clear S;intro a w S;refine sq S ?_;clear S;intro a S;refine kN (xtn (kS (kS (kR ?_))));(iterate 4 (refine sq S ?_;clear S;intro a S));refine sr S (ccmp_c x.cnt s.cnt _) ?_;clear S;rintro _ a w rfl S;refine kN (xtn (kB (kS (kR (sq S ?_)))));clear S;intro a S
 rw[cmpI_eq]at S
 refine sq S ?_;clear S;intro a S;refine kN (xtn ?_)
 refine kC S (fun h3=>?_) (fun h3=>?_)
 refine kS (kR ?_);(iterate 2 (refine sq S ?_;clear S;intro a S))
 refine gS S (fun hs4 S=>?_) (fun hs4 S=>?_)
 refine gT S ?_;refine sq S ?_;clear S;intro a S;refine gT S ?_;refine sq S ?_;clear S;intro a S;refine gT S ?_;refine sq S ?_;clear S;intro a S;refine gT S ?_;refine sq S ?_;clear S;intro a S;refine gT S ?_;refine sr S (same_c x.root s.root _ (S.t0 _) (S.t0 _)) ?_;clear S;rintro _ a w rfl S;(iterate 2 (refine sq S ?_;clear S;intro a S));refine kN (xtn (kT (xbr (xtr ?_))))
 refine end1 S (fun _=>?_)
 rw[hcov,if_pos (of_decide_eq_true h3),hs4,Bool.true_and]
 refine gF S ?_;clear S;intro a S;(iterate 4 (refine gF S ?_;clear S;intro a S));(iterate 2 (refine sq S ?_;clear S;intro a S));refine kN (xtn (kT (xbr (xtr ?_))))
 refine end1 S (fun _=>?_)
 rw[hcov,hs4,Bool.false_and]
 refine kS (kR (sq S ?_));clear S;intro a S
 rw[cmpI_one]at S
 refine sq S ?_;clear S;intro a S;refine kN (xtn ?_)
 refine kC S (fun h5=>?_) (fun h5=>?_)
 refine kS (kR ?_);(iterate 2 (refine sq S ?_;clear S;intro a S));refine kN (xtn (kT (xbr (xtr ?_))))
 refine end1 S (fun _=>?_)
 rw[hcov,if_neg (of_decide_eq_false h3),h5,Bool.and_true]
 refine kK (xbn (xtn (kS (kR (sq S ?_)))));clear S;intro a S;refine kN (xtn (kT ?_))
 refine end1 S (fun _=>?_)
 rw[hcov,if_neg (of_decide_eq_false h3),h5,Bool.and_false]
def covM (old now:List LMark):Bool:=!old.any fun m=>!now.any (covK m)
def coversB (a b:PMem):Bool:=memB a&&memB b&&decide (a.user=b.user)&&(decide (a.leaf≤b.leaf)&&decide (a.counter≤b.counter)&&decide (a.num≤b.num))&&(a.seeds.all fun s=>decide (s∈b.seeds))&&covM a.vers b.vers&&a.seen.all (covS b.seen)
theorem mchk_dec (m:PMem):decide (mchkF m=0)=memB m:=by rw[mchkF];cases memB m <;> rfl
theorem seenB_cnt:∀ (l:List LSeen) (k:Int),seenB k (ssP l)=true→∀ x∈l,1≤x.cnt
 | [],_,_,x,hx=>by cases hx
 | y::l,k,h,x,hx=>by
  replace h:(decide (k < y.user)&&knownF y.user&&cntS y.cnt&&decide (checkF y.root.t=0)&&seenB y.user (ssP l))=true:=h
  simp only[Bool.and_eq_true,decide_eq_true_eq,cntS]at h
  rcases List.mem_cons.1 hx with rfl | hx
  exact h.1.1.2.1
  exact seenB_cnt l y.user h.2 x hx
theorem memB_seen {m:LMem} (h:memB m.m=true):seenB 0 (ssP m.seen)=true:=by
 rw[memB,Bool.and_eq_true]at h;exact h.2
theorem covers_not {a b:PMem} (h:(!memB a||!memB b||!decide (a.user=b.user))=true):coversB a b=false:=by
 rw[coversB]
 cases h1:memB a with
 | false=>simp
 | true=>
  cases h2:memB b with
  | false=>simp
  | true=>
   rw[h1,h2]at h
   have h3:decide (a.user=b.user)=false:=by simpa using h
   rw[h3];simp
set_option maxHeartbeats 2000000 in
theorem mcovers_c (x y:LMem) (hx:FitM x) (hy:FitM y) (w0:World) (fx:Stable (fun _=>False) w0 (MemF x)) (fy:Stable (fun _=>False) w0 (MemF y)):Ret Tryz.prog 38 [vMem x,vMem y] w0 (fun _=>False) fun v _=>v=.bool (coversB x.m y.m):=by
 have l1:=hx.seeds
 have l2:=hx.vers
 have l3:=hx.seen
 have l4:=hy.seeds
 have l5:=hy.vers
 have l6:=hy.seen
 refine enter Tryz.func38 rfl rfl (Wd.begin (fs:=[MemF x,MemF y,GlF x.sp x.seeds,GlF x.vp x.vers,GlF x.ep x.seen,GlF y.sp y.seeds,GlF y.vp y.vers,GlF y.ep y.seen]) (by simp;exact ⟨fx,fy,fx.imp fun _ h=>h.1,fx.imp fun _ h=>h.2.1,fx.imp fun _ h=>h.2.2,fy.imp fun _ h=>h.1,fy.imp fun _ h=>h.2.1,fy.imp fun _ h=>h.2.2⟩)) (fun a S=>?_)
 simp only[Tryz.ntmps38,qqA,qqB,Nat.reduceAdd,Nat.reduceSub,qqC,qqD,qqE,qqF]at S
 refine kS (kR ?_);refine sa S ?_;clear S;intro b2 a w S;refine sa S ?_;clear S;intro b3 a w S;refine sq S ?_;clear S;intro a S;refine kN (xtn (kS (kS (kR (sq S ?_)))));clear S;intro a S
 refine sr S (mcheck_c x hx _ ((S.mem.fact (MemF x)).less fun _ _ h=>h.elim)) ?_;clear S;rintro _ a w rfl S
 refine sq S ?_;clear S;intro a S
 rw[mchk_dec]at S
 refine sq S ?_;clear S;intro a S
 refine gS S (fun hs1 S=>?_) (fun hs1 S=>?_)
 refine gF' S ?_;clear S;intro a S;(iterate 2 (refine gF' S ?_;clear S;intro a S));(iterate 2 (refine sq S ?_;clear S;intro a S));(iterate 5 (refine gF' S ?_;clear S;intro a S));refine sq S ?_;clear S;intro a S;refine kN (xtn ?_);refine c_condT S ?_;refine kS (kR (sq S ?_));clear S;intro a S;refine kN (xtn (kT ?_));refine xtr ?_
 refine end1 S (fun _=>?_)
 rw[covers_not (by rw[hs1,Bool.true_or,Bool.true_or])]
 refine gT' S ?_;refine sq S ?_;clear S;intro a S;refine gT' S ?_
 refine sr S (mcheck_c y hy _ ((S.mem.fact (MemF y)).less fun _ _ h=>h.elim)) ?_;clear S;rintro _ a w rfl S
 refine gT' S ?_;refine sq S ?_;clear S;intro a S
 rw[mchk_dec]at S
 (iterate 2 (refine sq S ?_;clear S;intro a S));(iterate 5 (refine gQ S ?_;clear S;intro a S));refine sq S ?_;clear S;intro a S;refine kN (xtn ?_)
 refine kC S (fun h1=>?_) (fun h1=>?_)
 refine kS (kR (sq S ?_));clear S;intro a S;refine kN (xtn (kT (xtr ?_)))
 refine end1 S (fun _=>?_)
 rw[covers_not (by rw[hs1,Bool.false_or];exact h1)]
 refine kK (xtn (kS (kR ?_)));(iterate 2 (refine sq S ?_;clear S;intro a S));refine kN (xtn (kS (kR ?_)));(iterate 2 (refine sq S ?_;clear S;intro a S));refine kN (xtn (kS ?_))
 have hsx0:memB x.m=true:=by simpa using hs1
 have h1':memB y.m=true∧x.user=y.user:=by simpa using h1
 have hsx:=memB_seen hsx0
 have hsy:=memB_seen h1'.1
 have hcv:coversB x.m y.m=((decide (x.leaf≤y.leaf)&&decide (x.counter≤y.counter)&&decide (x.num≤y.num))&&(x.seeds.all fun s=>decide (s∈y.seeds))&&(!x.vers.any fun m=>!y.vers.any (covK m))&&x.seen.all fun s=>covS (ssP y.seen) s.s):=by
  rw[coversB,hsx0,h1'.1,decide_eq_true (show x.m.user=y.m.user from h1'.2)]
  simp only[Bool.true_and]
  show (_&&_&&_&&(ssP x.seen).all _)=_
  rw[ssP,List.all_map];rfl
 refine kR ?_;(iterate 6 (refine sq S ?_;clear S;intro a S));(iterate 5 (refine gQ S ?_;clear S;intro a S));(iterate 2 (refine sq S ?_;clear S;intro a S));(iterate 5 (refine gQ S ?_;clear S;intro a S));(iterate 2 (refine sq S ?_;clear S;intro a S));refine kN (xtn (kS (kR ?_)));(iterate 2 (refine sq S ?_;clear S;intro a S))
 refine gS S (fun hs6 S=>?_) (fun hs6 S=>?_)
 refine gT S ?_;refine sq S ?_;clear S;intro a S;refine gT S ?_;refine sq S ?_;clear S;intro a S;refine gT S ?_;refine sq S ?_;clear S;intro a S;refine gT S ?_
 have hbx:=BoxF.stable (M:=fun _=>False) (S.boxF b3) (fun h=>h)
 have hgl:=S.gl0 y.sp
 refine sr S (allSd_c 117 [.pointer (some ⟨b3,0,none⟩)] (fun s=>decide (s∈y.seeds)) x.seeds x.sp x.seeds.length x.sc _ rfl (by omega) (S.gl0 x.sp) (fun s _ w' hw'=>mcov1_c b3 y s w' (by omega) (hbx.later hw') (hgl.later hw'))) ?_;clear S;rintro _ a w rfl S
 (iterate 2 (refine sq S ?_;clear S;intro a S))
 refine gS S (fun hs7 S=>?_) (fun hs7 S=>?_)
 refine gT S ?_;refine sq S ?_;clear S;intro a S;refine gT S ?_;refine sq S ?_;clear S;intro a S;refine gT S ?_;refine sq S ?_;clear S;intro a S;refine gT S ?_;refine sq S ?_;clear S;intro a S;refine gT S ?_
 refine sr S (fcov_c x.vers y.vers x.vp y.vp x.vc y.vc _ (by omega) (by omega) (S.gl0 x.vp) (S.gl0 y.vp)) ?_;clear S;rintro _ a w rfl S
 (iterate 2 (refine sq S ?_;clear S;intro a S))
 refine gS S (fun hs8 S=>?_) (fun hs8 S=>?_)
 refine gT S ?_;refine sq S ?_;clear S;intro a S;refine gT S ?_;refine sq S ?_;clear S;intro a S;refine gT S ?_;refine sq S ?_;clear S;intro a S;refine gT S ?_
 have hbx:=BoxF.stable (M:=fun _=>False) (S.boxF b3) (fun h=>h)
 have hgl:=S.gl0 y.ep
 have hgx:=S.gl0 x.ep
 refine sr S (allSn_c 119 [.pointer (some ⟨b3,0,none⟩)] (fun s=>covS (ssP y.seen) s.s) x.seen x.ep x.seen.length x.ec _ rfl (by omega) hgx (fun s hs w' hw'=>mcov2_c b3 y s w' (by omega) hsy (seenB_cnt x.seen 0 hsx s hs) (hbx.later hw') (hgl.later hw') ((hgx.later hw').imp fun _ h=>h.2 s hs))) ?_;clear S;rintro _ a w rfl S
 (iterate 2 (refine sq S ?_;clear S;intro a S));refine kN (xtn (kT ?_))
 refine end1 S (fun _=>?_)
 rw[hcv,hs6,hs7,hs8];simp
 refine gF S ?_;clear S;intro a S;(iterate 3 (refine gF S ?_;clear S;intro a S));(iterate 2 (refine sq S ?_;clear S;intro a S));refine kN (xtn (kT ?_))
 refine end1 S (fun _=>?_)
 rw[hcv,hs6,hs7,hs8];simp
 refine gF S ?_;clear S;intro a S;(iterate 4 (refine gF S ?_;clear S;intro a S));(iterate 2 (refine sq S ?_;clear S;intro a S));(iterate 4 (refine gF S ?_;clear S;intro a S));(iterate 2 (refine sq S ?_;clear S;intro a S));refine kN (xtn (kT ?_))
 refine end1 S (fun _=>?_)
 rw[hcv,hs6,hs7];simp
 refine gF S ?_;clear S;intro a S;(iterate 3 (refine gF S ?_;clear S;intro a S));(iterate 2 (refine sq S ?_;clear S;intro a S));(iterate 5 (refine gF S ?_;clear S;intro a S));(iterate 2 (refine sq S ?_;clear S;intro a S));(iterate 4 (refine gF S ?_;clear S;intro a S));(iterate 2 (refine sq S ?_;clear S;intro a S));refine kN (xtn (kT ?_))
 refine end1 S (fun _=>?_)
 rw[hcv,hs6];simp
end Go.Proofs.YtdakncgafdnjfaaGreat