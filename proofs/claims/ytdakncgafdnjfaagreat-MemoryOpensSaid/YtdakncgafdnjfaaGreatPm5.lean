/- 5: a part of this claim's texts, joined: DiskE DiskF DiskG DiskH Reader ReaderB ReaderC PlainDec RefOct Sha ShaB ShaC VaultA VaultB VaultC VaultD VaultE VaultF. -/
import Derived.Test.YtdakncgafdnjfaaGreatPm4
namespace Go.Proofs.YtdakncgafdnjfaaGreat
open Go.Proofs.Tryz
open Go Go.Wk
set_option synthInstance.maxSize 100000
set_option synthInstance.maxHeartbeats 400000
set_option maxRecDepth 100000
def cS (s:DS)(k:Int)(PC:Bool):Int:=if s.out then 9 else if k < 0∨s.size≤k then 2 else if (ek s.bD).1 then 8 else if PC&&(ek s.bC).1 then 9 else 0
def fe (s:DS)(k:Int)(PC:Bool):DS:=if s.out then s else if k < 0∨s.size≤k then s else if (ek s.bD).1 then { s with bD:=(ek s.bD).2 } else
 if PC then (if (ek s.bC).1 then { s with bD:=(ek s.bD).2,bC:=(ek s.bC).2,out:=true } else { s with bD:=(ek s.bD).2,bC:=(ek s.bC).2 }) else { s with bD:=(ek s.bD).2 }
def oK (s:DS):DS:={ s with ops:=IntKind.i64.wrap (s.ops+1) }
section
variable {w0:World}{M0:Nat→Prop}{ds:List Deferred}{a:Act}{w:World}{l:List Value}{fs:List (World→Prop)}{x y z X:Wk.Item}
theorem St.iM [cV x][cV y][cV z][cV X](S:St w0 M0 ds a w l [x,y,z,X] fs)(hx:x.own=true)(hy:y.own=true)(hz:z.own=true)(hX:X.own=true):(both X (both x (both y z))).holds w:=by
 have S1:=((St.mT S hx hy hz).perm [X,both x (both y z)] (List.Perm.swap _ _ _)).aL hX (by simp[both,hx,hy,hz]);exact S1.it (both X (both x (both y z)))
theorem St.p_ [cV x][cV y][cV z][cV X](S:St w0 M0 ds a w l [x,y,z,X] fs)(hx:x.own=true)(hy:y.own=true)(hz:z.own=true)(hX:X.own=true):∀ i,(both X (both x (both y z))).aj i→M0 i∨w0.heap.size≤i:=by
 have S1:=((St.mT S hx hy hz).perm [X,both x (both y z)] (List.Perm.swap _ _ _)).aL hX (by simp[both,hx,hy,hz]);exact S1.bH (both X (both x (both y z))) (by simp[both,hx,hy,hz,hX])
end
theorem St.items {w0:World}{M0:Nat→Prop}{ds:List Deferred}{a:Act}{w:World}{l:List Value}{bs bs':List Wk.Item}{fs:List (World→Prop)}(S:St w0 M0 ds a w l bs fs)(h:bs=bs'):St w0 M0 ds a w l bs' fs:=h▸S
theorem Iw (F:Nat)[aF prog F](ca:List Value)(X X':Wk.Item)[cV X][cV X'](hX:X.own=true)(PD:X'.own=true)(g:DS→DS)(b m:Nat)(p:Option Addr)(c:Nat)(s:DS)(k:Int)(fs:List (World→Prop))(w0:World)(hd:(both X (ay b m p c s)).holds w0)(hf:∀ Φ∈fs,ag (both X (ay b m p c s)).aj w0 Φ)
    (Tl:∀ (s1:DS) (w:World),s1.loose=s.loose→s1.cg=s.cg→(both X (ay b m p c s1)).holds w→(∀ Φ∈fs,ag (both X (ay b m p c s1)).aj w Φ)→aT prog F ca w (both X (ay b m p c s1)).aj fun _ w'=>∃ p' c',(both X' (ay b m p' c' (g s1))).holds w'∧∀ i,(both X' (ay b m p' c' (g s1))).aj i→(both X (ay b m p c s1)).aj i∨w.heap.size≤i) :
    aT prog 222 [.pointer (some ⟨b,0,none⟩),.int .i64 k,.bool false,.func (.func F) #[] ⟨ca⟩] w0 (both X (ay b m p c s)).aj fun v w'=>v=.int .i64 (cS s k false)∧
      ((cS s k false≠0∧(both X (ay b m p c (fe s k false))).holds w'∧∀ i,(both X (ay b m p c (fe s k false))).aj i→(both X (ay b m p c s)).aj i∨w0.heap.size≤i)∨
       (cS s k false=0∧∃ p' c',(both X' (ay b m p' c' (oK (g (fe s k false))))).holds w'∧∀ i,(both X' (ay b m p' c' (oK (g (fe s k false))))).aj i→(both X (ay b m p c s)).aj i∨w0.heap.size≤i)):=by
  refine E1 func222 rfl ntmps222 (Wd.ig (x:=X) (y:=ay b m p c s) (fs:=fs) hd hX rfl hf) ?_;intro a S;refine FF ?_;intro a S;replace S:=St.uV (S.perm [ay b m p c s,X] (List.Perm.swap _ _ _));refine J9 ?_;intro a S;refine kC S (fun h3=>?_) (fun h3=>?_)
  · refine J8 ?_;intro a S
    have ho:s.out=true:=by simpa using h3
    have e1:cS s k false=9:=by simp[cS,ho]
    have e2:fe s k false=s:=by simp[fe,ho]
    have hh:=St.iM S rfl rfl rfl hX;have hn:=St.p_ S rfl rfl rfl hX;refine aD S (fun _=>⟨by rw[e1],.inl ⟨by rw[e1];decide,by rw[e2];exact hh,by rw[e2];exact hn⟩⟩)
  · refine FF ?_;intro a S
    refine kC S (fun h5=>?_) (fun h5=>?_)
    · refine J8 ?_;intro a S
      have ho:s.out=false:=by simpa using h3
      have hk:k < 0∨s.size≤k:=by simpa using h5
      have e1:cS s k false=2:=by simp[cS,ho,hk]
      have e2:fe s k false=s:=by simp[fe,ho,hk]
      have hh:=St.iM S rfl rfl rfl hX;have hn:=St.p_ S rfl rfl rfl hX;refine aD S (fun _=>⟨by rw[e1],.inl ⟨by rw[e1];decide,by rw[e2];exact hh,by rw[e2];exact hn⟩⟩)
    · refine J6 ?_;intro a S
      have ho:s.out=false:=by simpa using h3
      have hk:¬(k < 0∨s.size≤k):=by simpa using h5
      refine cM (Wk.box b 170 (bq m p s.loose.length c s)) S (xy b m p s.loose.length c s _ (S.box b)) rfl ?_;rintro _ a w ⟨rfl,ju⟩ hS;have S:=hS (Wk.box b 170 (bq m p s.loose.length c { s with bD:=(ek s.bD).2 })) ju (fun k h=>.inl h);clear hS;refine J3 ?_;intro a S;refine kC S (fun h7=>?_) (fun h7=>?_)
      · refine J8 ?_;intro a S
        have hm:(ek s.bD).1=true:=by simpa using h7
        have e1:cS s k false=8:=by simp[cS,ho,hk,hm]
        have e2:fe s k false = { s with bD:=(ek s.bD).2 }:=by simp[fe,ho,hk,hm]
        have hh:=St.iM S rfl rfl rfl hX;have hn:=St.p_ S rfl rfl rfl hX;refine aD S (fun _=>⟨by rw[e1],.inl ⟨by rw[e1];decide,by rw[e2];exact hh,by rw[e2];exact hn⟩⟩)
      · refine kS ?_
        have hm:(ek s.bD).1=false:=by simpa using h7
        refine kR ?_;(iterate 2 (refine sq S ?_;intro a S));(iterate 5 (refine gF S ?_;intro a S));(iterate 2 (refine sq S ?_;intro a S));refine kN (aQ ?_);refine jS S ?_;refine kK (qw (aQ (kS ?_)))
        skip
        have e1:cS s k false=0:=by simp[cS,ho,hk,hm]
        obtain ⟨s1,dZ⟩:∃ s1:DS,s1 = { s with bD:=(ek s.bD).2 }:=⟨_,rfl⟩;have e2:fe s k false=s1:=by rw[dZ];simp[fe,ho,hk,hm]
        have nw:s1.loose=s.loose:=by rw[dZ]
        have kr:s1.cg=s.cg:=by rw[dZ]
        replace S:=St.items S (bs':=[Wk.box b 170 (bq m p s1.loose.length c s1),lQ m (jJ s1.cg),Wk.row 265 65 p s1.loose.length c (aa s1.loose),X]) (by subst dZ;rfl);replace S:=((St.mT S).perm [X,ay b m p c s1] (List.Perm.swap _ _ _)).aL hX rfl;refine J2 ?_;intro a S;refine cM (both X (ay b m p c s1)) S (Tl s1 _ nw kr (S.it (both X (ay b m p c s1))) (fun Φ hΦ=>S.bU (both X (ay b m p c s1)) (S.wd.facts Φ hΦ))) (by simp only[both,hX];rfl) ?_;rintro _ a w ⟨p',c',hh,hn⟩ hS;have S:=hS (both X' (ay b m p' c' (g s1))) hh hn;clear hS;replace S:=St.uV ((S.aP PD rfl).perm [ay b m p' c' (g s1),X'] (List.Perm.swap _ _ _));refine WR ?_;intro a w S;have hh:=St.iM S rfl rfl rfl PD;have hn:=St.p_ S rfl rfl rfl PD;refine aD S (fun _=>⟨by rw[e1],.inr ⟨e1,p',c',by rw[e2];exact hh,by rw[e2];exact hn⟩⟩)
theorem Iy (F:Nat)[aF prog F](ca:List Value)(X X':Wk.Item)[cV X][cV X'](hX:X.own=true)(PD:X'.own=true)(g:DS→DS)(b m:Nat)(p:Option Addr)(c:Nat)(s:DS)(k:Int)(fs:List (World→Prop))(w0:World)(hd:(both X (ay b m p c s)).holds w0)(hf:∀ Φ∈fs,ag (both X (ay b m p c s)).aj w0 Φ)
    (Tl:∀ (s1:DS) (w:World),s1.loose=s.loose→s1.cg=s.cg→(both X (ay b m p c s1)).holds w→(∀ Φ∈fs,ag (both X (ay b m p c s1)).aj w Φ)→aT prog F ca w (both X (ay b m p c s1)).aj fun _ w'=>∃ p' c',(both X' (ay b m p' c' (g s1))).holds w'∧∀ i,(both X' (ay b m p' c' (g s1))).aj i→(both X (ay b m p c s1)).aj i∨w.heap.size≤i) :
    aT prog 222 [.pointer (some ⟨b,0,none⟩),.int .i64 k,.bool true,.func (.func F) #[] ⟨ca⟩] w0 (both X (ay b m p c s)).aj fun v w'=>v=.int .i64 (cS s k true)∧
      ((cS s k true≠0∧(both X (ay b m p c (fe s k true))).holds w'∧∀ i,(both X (ay b m p c (fe s k true))).aj i→(both X (ay b m p c s)).aj i∨w0.heap.size≤i)∨
       (cS s k true=0∧∃ p' c',(both X' (ay b m p' c' (oK (g (fe s k true))))).holds w'∧∀ i,(both X' (ay b m p' c' (oK (g (fe s k true))))).aj i→(both X (ay b m p c s)).aj i∨w0.heap.size≤i)):=by
  refine E1 func222 rfl ntmps222 (Wd.ig (x:=X) (y:=ay b m p c s) (fs:=fs) hd hX rfl hf) ?_;intro a S;refine FF ?_;intro a S;replace S:=St.uV (S.perm [ay b m p c s,X] (List.Perm.swap _ _ _));refine J9 ?_;intro a S;refine kC S (fun h3=>?_) (fun h3=>?_)
  · refine J8 ?_;intro a S
    have ho:s.out=true:=by simpa using h3
    have e1:cS s k true=9:=by simp[cS,ho]
    have e2:fe s k true=s:=by simp[fe,ho]
    have hh:=St.iM S rfl rfl rfl hX;have hn:=St.p_ S rfl rfl rfl hX;refine aD S (fun _=>⟨by rw[e1],.inl ⟨by rw[e1];decide,by rw[e2];exact hh,by rw[e2];exact hn⟩⟩)
  · refine FF ?_;intro a S
    refine kC S (fun h5=>?_) (fun h5=>?_)
    · refine J8 ?_;intro a S
      have ho:s.out=false:=by simpa using h3
      have hk:k < 0∨s.size≤k:=by simpa using h5
      have e1:cS s k true=2:=by simp[cS,ho,hk]
      have e2:fe s k true=s:=by simp[fe,ho,hk]
      have hh:=St.iM S rfl rfl rfl hX;have hn:=St.p_ S rfl rfl rfl hX;refine aD S (fun _=>⟨by rw[e1],.inl ⟨by rw[e1];decide,by rw[e2];exact hh,by rw[e2];exact hn⟩⟩)
    · refine J6 ?_;intro a S
      have ho:s.out=false:=by simpa using h3
      have hk:¬(k < 0∨s.size≤k):=by simpa using h5
      refine cM (Wk.box b 170 (bq m p s.loose.length c s)) S (xy b m p s.loose.length c s _ (S.box b)) rfl ?_;rintro _ a w ⟨rfl,ju⟩ hS;have S:=hS (Wk.box b 170 (bq m p s.loose.length c { s with bD:=(ek s.bD).2 })) ju (fun k h=>.inl h);clear hS;refine J3 ?_;intro a S;refine kC S (fun h7=>?_) (fun h7=>?_)
      · refine J8 ?_;intro a S
        have hm:(ek s.bD).1=true:=by simpa using h7
        have e1:cS s k true=8:=by simp[cS,ho,hk,hm]
        have e2:fe s k true = { s with bD:=(ek s.bD).2 }:=by simp[fe,ho,hk,hm]
        have hh:=St.iM S rfl rfl rfl hX;have hn:=St.p_ S rfl rfl rfl hX;refine aD S (fun _=>⟨by rw[e1],.inl ⟨by rw[e1];decide,by rw[e2];exact hh,by rw[e2];exact hn⟩⟩)
      · refine kS ?_
        have hm:(ek s.bD).1=false:=by simpa using h7
        refine kR ?_;(iterate 2 (refine sq S ?_;intro a S));refine gT S ?_;refine sq S ?_;intro a S;refine gT S ?_;refine sq S ?_;intro a S;refine gT S ?_;refine sq S ?_;intro a S;refine gT S ?_;refine sq S ?_;intro a S;refine gT S ?_;refine cM (Wk.box b 170 (bq m p s.loose.length c { s with bD:=(ek s.bD).2 })) S (Io b m p s.loose.length c { s with bD:=(ek s.bD).2 } _ (S.box b)) rfl ?_;rintro _ a w ⟨rfl,ju⟩ hS;have S:=hS (Wk.box b 170 (bq m p s.loose.length c { s with bD:=(ek s.bD).2,bC:=(ek s.bC).2 })) ju (fun k h=>.inl h);clear hS;refine J4 ?_;intro a S;refine kC S (fun h9=>?_) (fun h9=>?_)
        · refine CD ?_;intro a w S
          have hm2:(ek s.bC).1=true:=by simpa using h9
          have e1:cS s k true=9:=by simp[cS,ho,hk,hm,hm2]
          have e2:fe s k true = { s with bD:=(ek s.bD).2,bC:=(ek s.bC).2,out:=true }:=by simp[fe,ho,hk,hm,hm2]
          have hh:=St.iM S rfl rfl rfl hX;have hn:=St.p_ S rfl rfl rfl hX;refine aD S (fun _=>⟨by rw[e1],.inl ⟨by rw[e1];decide,by rw[e2];exact hh,by rw[e2];exact hn⟩⟩)
        · refine kK (qw (aQ (kS ?_)))
          have hm2:(ek s.bC).1=false:=by simpa using h9
          have e1:cS s k true=0:=by simp[cS,ho,hk,hm,hm2]
          obtain ⟨s1,dZ⟩:∃ s1:DS,s1 = { s with bD:=(ek s.bD).2,bC:=(ek s.bC).2 }:=⟨_,rfl⟩;have e2:fe s k true=s1:=by rw[dZ];simp[fe,ho,hk,hm,hm2]
          have nw:s1.loose=s.loose:=by rw[dZ]
          have kr:s1.cg=s.cg:=by rw[dZ]
          replace S:=St.items S (bs':=[Wk.box b 170 (bq m p s1.loose.length c s1),lQ m (jJ s1.cg),Wk.row 265 65 p s1.loose.length c (aa s1.loose),X]) (by subst dZ;rfl);replace S:=((St.mT S).perm [X,ay b m p c s1] (List.Perm.swap _ _ _)).aL hX rfl;refine J2 ?_;intro a S;refine cM (both X (ay b m p c s1)) S (Tl s1 _ nw kr (S.it (both X (ay b m p c s1))) (fun Φ hΦ=>S.bU (both X (ay b m p c s1)) (S.wd.facts Φ hΦ))) (by simp only[both,hX];rfl) ?_;rintro _ a w ⟨p',c',hh,hn⟩ hS;have S:=hS (both X' (ay b m p' c' (g s1))) hh hn;clear hS;replace S:=St.uV ((S.aP PD rfl).perm [ay b m p' c' (g s1),X'] (List.Perm.swap _ _ _));refine WR ?_;intro a w S;have hh:=St.iM S rfl rfl rfl PD;have hn:=St.p_ S rfl rfl rfl PD;refine aD S (fun _=>⟨by rw[e1],.inr ⟨e1,p',c',by rw[e2];exact hh,by rw[e2];exact hn⟩⟩)
theorem l7 (y:Wk.Item):(both C2 y).aj=y.aj:=by funext k;simp[both,C2]
theorem l9 (y:Wk.Item)(w:World):(both C2 y).holds w↔y.holds w:=by simp[both,C2]
def g_ (g:DS→DS)(s:DS)(k:Int):DS:=if cS s k true=0 then oK (g (fe s k true)) else fe s k true
theorem EG (F:Nat)[aF prog F](ca:List Value)(g:DS→DS)(b m:Nat)(p:Option Addr)(c:Nat)(s:DS)(k:Int)(fs:List (World→Prop))(w0:World)(hd:(ay b m p c s).holds w0)(hf:∀ Φ∈fs,ag (ay b m p c s).aj w0 Φ)
  (Tl:∀ (s1:DS) (w:World),s1.loose=s.loose→s1.cg=s.cg→(ay b m p c s1).holds w→(∀ Φ∈fs,ag (ay b m p c s1).aj w Φ)→aT prog F ca w (ay b m p c s1).aj fun _ w'=>∃ p' c',(ay b m p' c' (g s1)).holds w'∧∀ i,(ay b m p' c' (g s1)).aj i→(ay b m p c s1).aj i∨w.heap.size≤i) :
  aT prog 222 [.pointer (some ⟨b,0,none⟩),.int .i64 k,.bool true,.func (.func F) #[] ⟨ca⟩] w0 (ay b m p c s).aj fun v w'=>v=.int .i64 (cS s k true)∧∃ p' c',(ay b m p' c' (g_ g s k)).holds w'∧∀ i,(ay b m p' c' (g_ g s k)).aj i→(ay b m p c s).aj i∨w0.heap.size≤i:=by
 have h:=Iy F ca C2 C2 rfl rfl g b m p c s k fs w0 ((l9 _ _).2 hd) (by rw[l7];exact hf) (fun s1 w h1 h2 h3 h4=>by
  rw[l7]at h4⊢;refine (Tl s1 w h1 h2 ((l9 _ _).1 h3) h4).mono fun _ w' ⟨p',c',h5,h6⟩=>⟨p',c',(l9 _ _).2 h5,?_⟩
  rw[l7];exact h6)
 rw[l7]at h;refine h.mono fun v w' ⟨h1,h2⟩=>⟨h1,?_⟩
 rcases h2 with ⟨h3,h4,h5⟩ | ⟨h3,p',c',h4,h5⟩
 rw[l7]at h5;rw[g_,if_neg h3];exact ⟨p,c,(l9 _ _).1 h4,h5⟩;rw[l7]at h5;rw[g_,if_pos h3];exact ⟨p',c',(l9 _ _).1 h4,h5⟩
def l_ (s:DS)(k:Int)(x:bF):DS:=g_ (fun s=>dU s k x) s k
theorem AX (b m:Nat)(p:Option Addr)(c:Nat)(s:DS)(k:Int)(x:bF)(w0:World)(hl:s.loose.length≤1000000)(hd:(ay b m p c s).holds w0) :
  aT prog 171 [.pointer (some ⟨b,0,none⟩),.int .i64 k,iy x] w0 (ay b m p c s).aj fun v w'=>v=.int .i64 (cS s k true)∧∃ p' c',(ay b m p' c' (l_ s k x)).holds w'∧∀ i,(ay b m p' c' (l_ s k x)).aj i→(ay b m p c s).aj i∨w0.heap.size≤i:=by
 refine E1 func171 rfl ntmps171 (Wd.bV (x:=ay b m p c s) (fs:=[]) hd (by simp)) ?_;intro a S;refine kS (kR ?_);refine sa S ?_;intro b3 a w S;refine sa S ?_;intro b4 a w S;refine sa S ?_;intro b5 a w S;refine J8 ?_;intro a S;replace S:=S.iJ b5;replace S:=S.iJ b4;replace S:=S.iJ b3;refine cM (ay b m p c s) S (EG 237 [.pointer (some ⟨b3,0,none⟩),.pointer (some ⟨b4,0,none⟩),.pointer (some ⟨b5,0,none⟩)] (fun s=>dU s k x) b m p c s k [az b3 34 [.pointer (some ⟨b,0,none⟩)],az b4 3 [.int .i64 k],az b5 129 (aa x.l)] _ (S.it (ay b m p c s)) (fun Φ hΦ=>S.bU (ay b m p c s) (S.wd.facts Φ hΦ)) (fun s1 w h1 h2 h3 h4=>It b3 b4 b5 b m p c s1 k x w (by rw[h1];exact hl) h3 (h4 _ (by simp)) (h4 _ (by simp)) (h4 _ (by simp)))) rfl ?_;rintro _ a w ⟨rfl,p',c',hh,hn⟩ hS;have S:=hS (ay b m p' c' (l_ s k x)) hh hn;clear hS;refine J4 ?_;intro a S;have h1:=S.bH (ay b m p' c' (l_ s k x)) rfl;refine aD S (fun _=>⟨rfl,p',c',hh,h1⟩)
def oL (s:DS):DS:=g_ (gy fun _=>true) s 0
theorem EH (b m:Nat)(p:Option Addr)(c:Nat)(s:DS)(w0:World)(hl:s.loose.length≤1000000)(hd:(ay b m p c s).holds w0) :
  aT prog 172 [.pointer (some ⟨b,0,none⟩)] w0 (ay b m p c s).aj fun v w'=>v=.int .i64 (cS s 0 true)∧∃ p' c',(ay b m p' c' (oL s)).holds w'∧∀ i,(ay b m p' c' (oL s)).aj i→(ay b m p c s).aj i∨w0.heap.size≤i:=by
 refine E1 func172 rfl ntmps172 (Wd.bV (x:=ay b m p c s) (fs:=[]) hd (by simp)) ?_;intro a S;refine kS (kR ?_);refine sa S ?_;intro b1 a w S;refine J7 ?_;intro a S;replace S:=S.iJ b1;refine cM (ay b m p c s) S (EG 238 [.pointer (some ⟨b1,0,none⟩)] (gy fun _=>true) b m p c s 0 [az b1 34 [.pointer (some ⟨b,0,none⟩)]] _ (S.it (ay b m p c s)) (fun Φ hΦ=>S.bU (ay b m p c s) (S.wd.facts Φ hΦ)) (fun s1 w h1 h2 h3 h4=>Ma b1 b m p c s1 w (by rw[h1];exact hl) h3 (h4 _ (by simp)))) rfl ?_;rintro _ a w ⟨rfl,p',c',hh,hn⟩ hS;have S:=hS (ay b m p' c' (oL s)) hh hn;clear hS;refine J4 ?_;intro a S;have h1:=S.bH (ay b m p' c' (oL s)) rfl;refine aD S (fun _=>⟨rfl,p',c',hh,h1⟩)
def EI (s:DS)(k:Int):bF:=if cS s k false=0 then aN s k else zB
def lA (s:DS)(k:Int):DS:=if cS s k false=0 then oK (fe s k false) else fe s k false
theorem Mb (g0 g1 r b m:Nat)(p:Option Addr)(c:Nat)(s:DS)(k:Int)(w0:World)(hl:s.loose.length≤1000000)(hd:(both (Wk.box r 129 (aa zB.l)) (ay b m p c s)).holds w0)
  (f0:ag (both (Wk.box r 129 (aa zB.l)) (ay b m p c s)).aj w0 (az g0 34 [.pointer (some ⟨b,0,none⟩)])) (f1:ag (both (Wk.box r 129 (aa zB.l)) (ay b m p c s)).aj w0 (az g1 3 [.int .i64 k])) :
  aT prog 223 [.pointer (some ⟨g0,0,none⟩),.pointer (some ⟨g1,0,none⟩),.pointer (some ⟨r,0,none⟩)] w0 (both (Wk.box r 129 (aa zB.l)) (ay b m p c s)).aj fun _ w'=>(both (Wk.box r 129 (aa (aN s k).l)) (ay b m p c s)).holds w':=by
 refine E1 func223 rfl ntmps223 (Wd.ig (x:=Wk.box r 129 (aa zB.l)) (y:=ay b m p c s) (fs:=[az g0 34 [.pointer (some ⟨b,0,none⟩)],az g1 3 [.int .i64 k]]) hd rfl rfl (by simp only[List.mem_cons,List.not_mem_nil,or_false];rintro Φ (rfl | rfl) <;> assumption)) ?_;intro a S;refine eY [T9 0,T9 1,T9 2,T9 3,F9 4,F9 5] [ay b m p c s] S ?_;clear S;intro w S;(iterate 4 (refine dq S ?_;clear S;intro a S));refine dl ?_;have Iz:(ay b m p c s).holds _:=S.it (ay b m p c s);refine sr S (L_ b m p c s k hl _ (az.aO Iz.1 (fun h=>h)) (uT.aO Iz.2.1.1 (fun h=>h)) (gJ (M:=fun _=>False) Iz.2.1.2.1 (fun _ _ _ _=>trivial) (fun _ _ h=>h))) ?_;clear S Iz;rintro _ a w rfl S;refine de S ?_;refine dl (sw S ?_);clear S;intro a w S;refine de S ?_;refine dn ?_;replace S:=S.sub [Wk.box r 129 (aa (aN s k).l),ay b m p c s] [];have hh:=(S.aL).it (both (Wk.box r 129 (aa (aN s k).l)) (ay b m p c s));refine iD S (fun _=>hh)
theorem yU (b m:Nat)(p:Option Addr)(c:Nat)(s:DS)(k:Int)(w0:World)(hl:s.loose.length≤1000000)(hd:(ay b m p c s).holds w0) :
  aT prog 147 [.pointer (some ⟨b,0,none⟩),.int .i64 k] w0 (ay b m p c s).aj fun v w'=>v=.tuple ⟨[iy (EI s k),.int .i64 (cS s k false)]⟩∧∃ p' c',(ay b m p' c' (lA s k)).holds w'∧∀ i,(ay b m p' c' (lA s k)).aj i→(ay b m p c s).aj i∨w0.heap.size≤i:=by
 refine E1 func147 rfl ntmps147 (Wd.bV (x:=ay b m p c s) (fs:=[]) hd (by simp)) ?_;intro a S;refine kS (kR ?_);refine sa S ?_;intro b2 a w S;refine sa S ?_;intro b3 a w S;refine sa S ?_;intro b4 a w S;refine J8 ?_;intro a S;rw[show (aa (List.replicate 64 (0:UInt8)):List Value)=aa zB.l from rfl]at S;replace S:=S.iJ b3;replace S:=S.iJ b2;replace S:=S.aL;refine cM (both (Wk.box b4 129 (aa zB.l)) (ay b m p c s)) S (Iw 223 [.pointer (some ⟨b2,0,none⟩),.pointer (some ⟨b3,0,none⟩),.pointer (some ⟨b4,0,none⟩)] (Wk.box b4 129 (aa zB.l)) (Wk.box b4 129 (aa (aN s k).l)) rfl rfl id b m p c s k [az b2 34 [.pointer (some ⟨b,0,none⟩)],az b3 3 [.int .i64 k]] _ (S.it (both (Wk.box b4 129 (aa zB.l)) (ay b m p c s))) (fun Φ hΦ=>S.bU (both (Wk.box b4 129 (aa zB.l)) (ay b m p c s)) (S.wd.facts Φ hΦ)) (fun s1 w h1 h2 h3 h4=>(Mb b2 b3 b4 b m p c s1 k w (by rw[h1];exact hl) h3 (h4 _ (by simp)) (h4 _ (by simp))).mono fun _ w' h=>⟨p,c,by rw[show aN s k=aN s1 k from by rw[aN,aN,h1,h2]];exact h,fun i hi=>.inl hi⟩)) rfl ?_;rintro _ a w ⟨rfl,uX⟩ hS;obtain ⟨p',c',hh,hn⟩:∃ p' c',(both (Wk.box b4 129 (aa (EI s k).l)) (ay b m p' c' (lA s k))).holds w∧∀ i,(both (Wk.box b4 129 (aa (EI s k).l)) (ay b m p' c' (lA s k))).aj i→(both (Wk.box b4 129 (aa zB.l)) (ay b m p c s)).aj i∨_≤i:=by
  rcases uX with ⟨h3,h4,h5⟩ | ⟨h3,p',c',h4,h5⟩
  rw[EI,lA,if_neg h3,if_neg h3];exact ⟨p,c,h4,h5⟩;rw[EI,lA,if_pos h3,if_pos h3];exact ⟨p',c',h4,h5⟩
 have S:=hS (both (Wk.box b4 129 (aa (EI s k).l)) (ay b m p' c' (lA s k))) hh hn;clear hS uX hh hn;replace S:=S.aP;refine uh ?_;intro a w S;have h0:=S.it (ay b m p' c' (lA s k));have h1:=S.bH (ay b m p' c' (lA s k)) rfl;refine gO S (fun _=>⟨rfl,p',c',h0,h1⟩)
theorem uY {α:Type}[dW α]{xs:List α}{k:Nat}(h:k < xs.length):xs.take (k+1)=xs.take k++[aq xs k]:=by
 rw[List.take_add_one,bu h];rfl
theorem xz (b m:Nat)(p:Option Addr)(n c:Nat)(s:DS)(w0:World)(hb:Fx w0 (az b 170 (bq m p n c s))):aT prog 101 [.pointer (some ⟨b,0,none⟩)] w0 (fun _=>False) fun v _=>v=.int .i64 (if s.out then 9 else 0):=by
 refine E1 func101 rfl ntmps101 (Wd.begin (fs:=[az b 170 (bq m p n c s)]) (by simpa using hb)) ?_;intro a S;refine mK ?_;intro a S;refine J5 ?_;intro a S;refine kC S (fun h3=>?_) (fun h3=>?_);refine J8 ?_;intro a S;have h:s.out=true:=by simpa using h3
 refine aD S (fun _=>by rw[h];rfl);refine J9 ?_;intro a S;have h:s.out=false:=by simpa using h3
 refine aD S (fun _=>by rw[h];rfl)
theorem IA (b m:Nat)(p:Option Addr)(n c:Nat)(s:DS)(w0:World)(hb:Fx w0 (az b 170 (bq m p n c s))):aT prog 155 [.pointer (some ⟨b,0,none⟩)] w0 (fun _=>False) fun v _=>v=.bool s.out:=by
 refine E1 func155 rfl ntmps155 (Wd.begin (fs:=[az b 170 (bq m p n c s)]) (by simpa using hb)) ?_;intro a S;refine mK ?_;intro a S;refine aD S (fun _=>?_)
 first | rfl | simp
def nV (s:DS)(n:Int):DS:=if s.out then s else { s with bC:=AV n }
theorem St.AY {w0:World}{M0:Nat→Prop}{ds:List Deferred}{a:Act}{w:World}{l:List Value}{fs:List (World→Prop)}{x y z:Wk.Item}{bs:List Wk.Item}[cV x][cV y][cV z](S:St w0 M0 ds a w l (x::y::z::bs) fs)(hx:x.own=true:=by rfl)(hy:y.own=true:=by rfl)(hz:z.own=true:=by rfl):(both x (both y z)).holds w:=
 (St.mT S hx hy hz).it (both x (both y z))
theorem IB (b m:Nat)(p:Option Addr)(c:Nat)(s:DS)(n:Int)(w0:World)(hd:(ay b m p c s).holds w0) :
  aT prog 31 [.pointer (some ⟨b,0,none⟩),.int .i64 n] w0 (ay b m p c s).aj fun v w'=>v=.int .i64 (if s.out then 9 else 0)∧(ay b m p c (nV s n)).holds w':=by
 refine E1 func31 rfl ntmps31 (Wd.uW (fs:=[]) hd (by simp)) ?_;intro a S;refine J8 ?_;intro a S;refine sr S (xz b m p s.loose.length c s _ (az.aO (S.ir b) (fun h=>h))) ?_;rintro _ a w rfl S;refine mJ ?_;intro a S;refine kC S (fun h2=>?_) (fun h2=>?_);refine J6 ?_;intro a S;have ho:s.out=false:=by
  cases h:s.out with
  | false=>rfl
  | true=>rw[h]at h2;simp at h2
 refine cM (Wk.box b 170 (bq m p s.loose.length c s)) S (Ip b m p s.loose.length c s n _ (S.box b)) rfl ?_;rintro _ a w ju hS;have S:=hS (Wk.box b 170 (bq m p s.loose.length c { s with bC:=AV n })) ju (fun k h=>.inl h);clear hS;refine J9 ?_;intro a S;have hh:=St.AY S;refine aD S (fun _=>⟨rfl,?_⟩);have e1:nV s n = { s with bC:=AV n }:=by simp[nV,ho]
 rw[e1];exact hh;refine J9 ?_;intro a S;have ho:s.out=true:=by
  cases h:s.out with
  | true=>rfl
  | false=>rw[h]at h2;simp at h2
 have hh:=St.AY S;refine aD S (fun _=>⟨rfl,?_⟩);have e1:nV s n=s:=by simp[nV,ho]
 rw[e1];exact hh
def qP (l:List Bool)(i:Nat):Bool:=decide ((i:Int) < (l.length:Int))&&aq l i
theorem IC (g:Nat)(l:List Bool)(q:Option Addr)(e i:Nat)(w0:World)(f1:Fx w0 (az g 58 [.slice q l.length e]))(f2:Fx w0 (av q l)):aT prog 104 [.int .i64 (i:Int),.pointer (some ⟨g,0,none⟩)] w0 (fun _=>False) fun v _=>v=.bool (qP l i):=by
 refine E1 func104 rfl ntmps104 (Wd.begin (fs:=[az g 58 [.slice q l.length e],av q l]) (by simp;exact ⟨f1,f2⟩)) ?_;intro a S;refine R_ ?_;intro a S;refine aD S (fun _=>rfl)
def bp (l:List Bool)(s:DS):DS:={ gy (qP l) s with out:=false,bC:=⟨false,0⟩,bD:=⟨false,0⟩ }
theorem uZ (b m:Nat)(p:Option Addr)(c:Nat)(s:DS)(l:List Bool)(q:Option Addr)(e:Nat)(w0:World)(hl:s.loose.length≤1000000)(hd:(ay b m p c s).holds w0)(hq:ag (ay b m p c s).aj w0 (av q l)) :
  aT prog 32 [.pointer (some ⟨b,0,none⟩),.slice q l.length e] w0 (ay b m p c s).aj fun v w'=>v=.int .i64 0∧(ay b m none 0 (bp l s)).holds w':=by
 refine E1 func32 rfl ntmps32 (Wd.bV (x:=ay b m p c s) (fs:=[av q l]) hd (by intro Φ hΦ;obtain rfl:=List.mem_singleton.1 hΦ;exact hq)) ?_;intro a S;refine kS (kR ?_);refine sa S ?_;intro b3 a w S;refine OP ?_;intro a S;replace S:=S.iJ b3;refine cM (ay b m p c s) S (AW 104 [.pointer (some ⟨b3,0,none⟩)] (qP l) b m p c s [az b3 58 [.slice q l.length e],av q l] _ hl (S.it (ay b m p c s)) (fun Φ hΦ=>S.bU (ay b m p c s) (S.wd.facts Φ hΦ)) (fun i w _ h=>IC b3 l q e i w (h _ (by simp)) (h _ (by simp)))) rfl ?_;rintro _ a w hh hS;have S:=hS (ay b m none 0 (gy (qP l) s)) hh (fun k hk=>.inl (by
  rcases hk with h | h | h
  exact .inl h;exact .inr (.inl h);obtain ⟨ad,h,-⟩:=h;cases h))
 clear hS;replace S:=St.uV S;refine sP ?_;intro a w S;refine Y9 ?_;intro a w S;have u7:=St.AY S;refine aD S (fun _=>⟨rfl,u7⟩)
theorem C4 (b m:Nat)(p:Option Addr)(c:Nat)(s:DS)(w0:World)(hl:s.loose.length≤1000000)(f1:Fx w0 (az b 170 (bq m p s.loose.length c s)))(f2:Fx w0 (av p s.loose)) :
  aT prog 157 [.pointer (some ⟨b,0,none⟩)] w0 (fun _=>False) fun v w'=>∃ q e,v=.slice q s.loose.length e∧w'.ownsRow 0 3 1 (.slice q s.loose.length e) s.loose.length (aa (s.loose.map rN.at_))∧∀ ad,q=some ad→w0.heap.size≤ad.block:=by
 refine E1 func157 rfl ntmps157 (Wd.begin (fs:=[az b 170 (bq m p s.loose.length c s),av p s.loose]) (by simp;exact ⟨f1,f2⟩)) ?_;intro a S;refine mK ?_;intro a S;refine rP ?_;intro a S;replace S:=S.cP 3 1;refine dI S (fun(k:Nat) (os:List Int) (q:Option Addr) (e:Nat) uu=>[(3,.slice q os.length e),(1,uu 5),(8,.int .i64 (k:Nat)),(0,uu 15),(0,uu 16),(0,uu 17),(0,uu 18),(0,uu 19),(0,uu 20),(0,uu 21),(0,uu 22),(0,uu 23)]) (fun(k:Nat) (os:List Int) (q:Option Addr) (e:Nat)=>[Wk.row 3 1 q os.length e (aa os)]) (fun(k:Nat) (os:List Int) (q:Option Addr) (e:Nat)=>[az b 170 (bq m p s.loose.length c s),av p s.loose]) (fun(k:Nat) (os:List Int) (q:Option Addr) (e:Nat)=>k≤s.loose.length∧os=(s.loose.take k).map rN.at_) (fun(k:Nat) (os:List Int) (q:Option Addr) (e:Nat)=>s.loose.length - k) (0) ([]) (none) (0) ?_ S.uu ?_ ?_;exact ⟨Nat.zero_le _,rfl⟩;exact S.sub [Wk.row 3 1 none 0 0 []] _;clear S;rintro k os q e uu a w ⟨hk,hos⟩ S;refine J6 ?_;intro a S;refine kC S (fun h5=>?_) (fun h5=>?_);refine kK (aQ (kS (kB (kS ?_))));have bn:k < s.loose.length:=by simp at h5;omega
 have hK:cx k s.loose.length:=⟨bn⟩;have N7:os.length=k:=by rw[hos,List.length_map,List.length_take];omega
 refine J3 ?_;intro a S;refine sa S ?_;intro b5 a w S;refine Y7 ?_;intro a w S;refine sn S ?_;intro b21 a w S;refine gA S (by simp only[maxLen];omega) (by omega) ?_;rintro p7 c7 a w - S;rw[show aa os++[.int .i64 (aq s.loose k).at_]=aa (os++[(aq s.loose k).at_]) from by rw[aC];rfl,show os.length+1=(os++[(aq s.loose k).at_]).length from by simp]at S;refine J9 ?_;intro a S;rw[w6 ((k:Int)+1)]at S;refine ⟨k+1,os++[(aq s.loose k).at_],p7,c7,S.uu,⟨bn,?_⟩,S.sub _ _,by omega⟩;rw[hos,uY bn,List.map_append];rfl;refine jq ?_;intro a S;have hk2:k=s.loose.length:=by simp at h5;omega
 have N7:os.length=s.loose.length:=by rw[hos,List.length_map,List.length_take];omega
 have hrow:=S.row q os.length;have hnew:=S.cQ q os.length;rw[hk2,List.take_length]at hos;refine aD S (fun _=>?_);exact ⟨q,e,by rw[N7],by rw[←hos,←N7];exact hrow,fun ad h=>(hnew ad h).elim (fun h=>h.elim) id⟩
theorem F3 (b m:Nat)(p:Option Addr)(n c:Nat)(s:DS)(k:Int)(w0:World)(hb:(Wk.box b 170 (bq m p n c s)).holds w0) :
  aT prog 102 [.pointer (some ⟨b,6,none⟩),.int .i64 k] w0 (fun k=>k=b) fun _ w'=>(Wk.box b 170 (bq m p n c { s with bD:=AV k })).holds w':=by
 refine E1 func102 rfl ntmps102 (Wd.bV (x:=Wk.box b 170 (bq m p n c s)) (fs:=[]) hb (by simp)) ?_;intro a S;refine Y9 ?_;intro a w S;have hh:=S.box b;refine iD S (fun _=>hh)
def jy (s:DS)(n:Int):DS:=if s.out then s else { s with bD:=AV n }
theorem EJ (b m:Nat)(p:Option Addr)(c:Nat)(s:DS)(n:Int)(w0:World)(hd:(ay b m p c s).holds w0) :
  aT prog 51 [.pointer (some ⟨b,0,none⟩),.int .i64 n] w0 (ay b m p c s).aj fun v w'=>v=.int .i64 (if s.out then 9 else 0)∧(ay b m p c (jy s n)).holds w':=by
 refine E1 func51 rfl ntmps51 (Wd.uW (fs:=[]) hd (by simp)) ?_;intro a S;refine J8 ?_;intro a S;refine sr S (xz b m p s.loose.length c s _ (az.aO (S.ir b) (fun h=>h))) ?_;rintro _ a w rfl S;refine mJ ?_;intro a S;refine kC S (fun h2=>?_) (fun h2=>?_);refine J6 ?_;intro a S;have ho:s.out=false:=by
  cases h:s.out with
  | false=>rfl
  | true=>rw[h]at h2;simp at h2
 refine cM (Wk.box b 170 (bq m p s.loose.length c s)) S (F3 b m p s.loose.length c s n _ (S.box b)) rfl ?_;rintro _ a w ju hS;have S:=hS (Wk.box b 170 (bq m p s.loose.length c { s with bD:=AV n })) ju (fun k h=>.inl h);clear hS;refine J9 ?_;intro a S;have hh:=St.AY S;refine aD S (fun _=>⟨rfl,?_⟩);have e1:jy s n = { s with bD:=AV n }:=by simp[jy,ho]
 rw[e1];exact hh;refine J9 ?_;intro a S;have ho:s.out=true:=by
  cases h:s.out with
  | true=>rfl
  | false=>rw[h]at h2;simp at h2
 have hh:=St.AY S;refine aD S (fun _=>⟨rfl,?_⟩);have e1:jy s n=s:=by simp[jy,ho]
 rw[e1];exact hh
theorem ID (b:Nat)(m:Nat)(p:Option Addr)(n c:Nat)(s:DS)(w0:World)(hb:Fx w0 (az b 170 (bq m p n c s))):aT prog 156 [.pointer (some ⟨b,0,none⟩)] w0 (fun _=>False) fun v _=>v=.int .i64 s.ops:=by
 refine E1 func156 rfl ntmps156 (Wd.begin (fs:=[az b 170 (bq m p n c s)]) (by simpa using hb)) ?_;intro a S;refine mK ?_;intro a S;refine J6 ?_;intro a S;exact aD S (fun _=>rfl)
def iU (bs:List UInt8)(x:Int):Int:=bs.foldl (fun x c=>IntKind.u64.wrap (IntKind.u64.wrap (256*x)+(c.toNat:Int))) x
theorem F4 (bs:List UInt8)(c:UInt8)(x:Int):iU (bs++[c]) x=IntKind.u64.wrap (IntKind.u64.wrap (256*iU bs x)+(c.toNat:Int)):=by simp[iU]
theorem qb {α:Type}[dW α]{xs:List α}{k:Nat}(h:k < xs.length):xs.take (k+1)=xs.take k++[aq xs k]:=by
 rw[List.take_add_one,bu h];rfl
theorem PE (c:UInt8):IntKind.u64.wrap (c.toNat:Int)=(c.toNat:Int):=jV _ (by omega) (by have:=c.toNat_lt;omega)
theorem AZ (b:Nat)(bs:List UInt8)(p:Option Addr)(n c:Nat)(x0:Int)(w0:World)(hn:bs.length=n)(hl:n≤10000000)(hb:(Wk.box b 239 [.int .u64 x0]).holds w0)(hx:ag (fun k=>k=b) w0 (av p bs)) :
  aT prog 233 [.slice p n c,.pointer (some ⟨b,0,none⟩)] w0 (fun k=>k=b) fun _ w'=>(Wk.box b 239 [.int .u64 (iU bs x0)]).holds w':=by
 subst hn;refine E1 func233 rfl ntmps233 (Wd.bV (x:=Wk.box b 239 [.int .u64 x0]) (fs:=[av p bs]) hb (by intro Φ hΦ;obtain rfl:=List.mem_singleton.1 hΦ;exact hx)) ?_;intro a S;refine J8 ?_;intro a S;refine fD S (fun(k:Nat) uu=>[(4,uu 4),(2,.int .i64 (k:Nat)),(0,uu 8),(0,uu 9),(0,uu 10),(0,uu 11),(0,uu 12),(0,uu 13),(0,uu 14),(0,uu 15),(0,uu 16)]) (fun(k:Nat)=>[Wk.box b 239 [.int .u64 (iU (bs.take k) x0)]]) (fun(k:Nat)=>[av p bs]) (fun(k:Nat)=>k≤bs.length) (fun(k:Nat)=>bs.length - k) (0) ?_ S.uu ?_ ?_;exact Nat.zero_le _
 first | exact S | exact S.sub _ _
 clear S;rintro k uu a w hk S;refine J6 ?_;intro a S;refine kC S (fun h1=>?_) (fun h1=>?_);refine kK (aQ (kS (kB (kS ?_))));have bn:k < bs.length:=by simp at h1;omega
 have hK:cx k bs.length:=⟨bn⟩;refine gM ?_;intro a S;rw[PE]at S;refine NJ ?_;intro a w S;rw[w6 ((k:Int)+1)]at S;rw[←F4,←qb bn]at S;exact ⟨k+1,S.uu,bn,S.sub _ _,by omega⟩;refine kE (fT (fT (mM ?_)));have hk2:k=bs.length:=by simp at h1;omega
 subst hk2;rw[List.take_length]at S;have hh:=S.box b;refine iD S (fun _=>hh)
theorem Tm (b bx:Nat)(bs:List UInt8)(p:Option Addr)(c k:Nat)(x0:Int)(w0:World)(hk:k≤bs.length)(hc:bs.length≤c)(hl:bs.length≤10000000)(hb:(both (Wk.box bx 239 [.int .u64 x0]) (Wk.box b 238 [.slice p bs.length c,.int .i64 0])).holds w0)(hx:ag (both (Wk.box bx 239 [.int .u64 x0]) (Wk.box b 238 [.slice p bs.length c,.int .i64 0])).aj w0 (av p bs)) :
  aT prog 166 [.pointer (some ⟨b,0,none⟩),.int .i64 (k:Int),.func (.func 233) #[] ⟨[.pointer (some ⟨bx,0,none⟩)]⟩] w0 (both (Wk.box bx 239 [.int .u64 x0]) (Wk.box b 238 [.slice p bs.length c,.int .i64 0])).aj fun _ w'=>
   (both (Wk.box bx 239 [.int .u64 (iU (bs.take k) x0)]) (Wk.box b 238 [.slice (if c=k then p else p.map (·.add (k*1))) (bs.length - k) (c - k),.int .i64 0])).holds w':=by
 have sR:eS k bs.length:=⟨hk⟩;have K8:eS bs.length c:=⟨hc⟩;have Hs:eS k c:=⟨by omega⟩;refine E1 func166 rfl ntmps166 (Wd.ig (x:=Wk.box bx 239 [.int .u64 x0]) (y:=Wk.box b 238 [.slice p bs.length c,.int .i64 0]) (fs:=[av p bs]) hb rfl rfl (by simpa using hx)) ?_;intro a S;refine J8 ?_;intro a S;rw[show (!decide ((0:Int)=0))=false from rfl]at S;refine J8 ?_;intro a S;rw[show decide ((k:Int) < 0)=false from decide_eq_false (by omega)]at S;refine rP ?_;intro a S;rw[show decide ((bs.length:Int) < (k:Int))=false from decide_eq_false (by omega)]at S;refine mK ?_;intro a S;refine uh ?_;intro a w S;refine cM (Wk.box bx 239 [.int .u64 x0]) S (AZ bx (bs.take k) p k c x0 w (by rw[List.length_take];omega) (by omega) (S.box bx) (S.bU (Wk.box bx 239 [.int .u64 x0]) ((S.mem.fact (av p bs)).imp fun _ h=>h.take k))) rfl ?_;rintro _ a w ju hS;have S:=hS (Wk.box bx 239 [.int .u64 (iU (bs.take k) x0)]) ju (fun k h=>.inl h);clear hS;refine kN (qw ?_);replace S:=S.sub [Wk.box bx 239 [.int .u64 (iU (bs.take k) x0)],Wk.box b 238 [.slice (if c=k then p else p.map (·.add (k*1))) (bs.length - k) (c - k),.int .i64 0]] [];have hh:=(S.aL).it (both (Wk.box bx 239 [.int .u64 (iU (bs.take k) x0)]) (Wk.box b 238 [.slice (if c=k then p else p.map (·.add (k*1))) (bs.length - k) (c - k),.int .i64 0]));refine iD S (fun _=>hh)
theorem EK (b:Nat)(bs:List UInt8)(p:Option Addr)(c k:Nat)(w0:World)(hk:k≤bs.length)(hc:bs.length≤c)(hl:bs.length≤10000000)(hb:(Wk.box b 238 [.slice p bs.length c,.int .i64 0]).holds w0)(hx:ag (fun k=>k=b) w0 (av p bs)) :
  aT prog 165 [.pointer (some ⟨b,0,none⟩),.int .i64 (k:Int)] w0 (fun k=>k=b) fun v w'=>v=.int .u64 (iU (bs.take k) 0)∧
   (Wk.box b 238 [.slice (if c=k then p else p.map (·.add (k*1))) (bs.length - k) (c - k),.int .i64 0]).holds w':=by
 refine E1 func165 rfl ntmps165 (Wd.bV (x:=Wk.box b 238 [.slice p bs.length c,.int .i64 0]) (fs:=[av p bs]) hb (by intro Φ hΦ;obtain rfl:=List.mem_singleton.1 hΦ;exact hx)) ?_;intro a S;refine kS (kR ?_);refine sa S ?_;intro b4 a w S;refine OP ?_;intro a S;replace S:=S.aL;refine cM (both (Wk.box b4 239 [.int .u64 0]) (Wk.box b 238 [.slice p bs.length c,.int .i64 0])) S (Tm b b4 bs p c k 0 w hk hc hl (S.it (both (Wk.box b4 239 [.int .u64 0]) (Wk.box b 238 [.slice p bs.length c,.int .i64 0]))) (S.bU (both (Wk.box b4 239 [.int .u64 0]) (Wk.box b 238 [.slice p bs.length c,.int .i64 0])) (S.mem.fact (av p bs)))) rfl ?_;rintro _ a w ju hS;have S:=hS (both (Wk.box b4 239 [.int .u64 (iU (bs.take k) 0)]) (Wk.box b 238 [.slice (if c=k then p else p.map (·.add (k*1))) (bs.length - k) (c - k),.int .i64 0])) ju (fun k h=>.inl h);clear hS;replace S:=S.aP;refine Y9 ?_;intro a w S;have hh:=S.box b;refine aD S (fun _=>?_);exact ⟨rfl,hh⟩
structure RS where
 p:Option Addr
 c:Nat
 bs:List UInt8
 why:Int
abbrev La (r:RS):List Value:=[.slice r.p r.bs.length r.c,.int .i64 r.why]
def u_ (r:RS)(k:Nat):Prop:=r.why=0∧k≤r.bs.length
instance (r:RS)(k:Nat):Decidable (u_ r k):=by unfold u_;exact inferInstance
def ai (r:RS)(k:Nat):RS:=if u_ r k then ⟨if r.c=k then r.p else r.p.map (·.add (k*1)),r.c - k,r.bs.drop k,0⟩ else ⟨r.p,r.c,r.bs,if r.why=0 then 7 else r.why⟩
def aM (r:RS)(k:Nat):List UInt8:=if u_ r k then r.bs.take k else []
theorem iw {r:RS}{k:Nat}(h:u_ r k):ai r k=⟨if r.c=k then r.p else r.p.map (·.add (k*1)),r.c - k,r.bs.drop k,0⟩:=if_pos h
theorem jz {r:RS}{k:Nat}(h:¬u_ r k):ai r k=⟨r.p,r.c,r.bs,if r.why=0 then 7 else r.why⟩:=if_neg h
theorem mc {r:RS}{k:Nat}(h:u_ r k):aM r k=r.bs.take k:=if_pos h
theorem nW {r:RS}{k:Nat}(h:¬u_ r k):aM r k=[]:=if_neg h
theorem me (r:RS)(k:Nat):(aM r k).length≤k∧(aM r k).length≤r.bs.length:=by
 unfold aM;split;rw[List.length_take];omega;simp
theorem F5 (r:RS)(k:Nat):(ai r k).bs.length≤r.bs.length:=by
 unfold ai;split;simp;simp
theorem F6 {r:RS}{k:Nat}(h:r.bs.length≤r.c):(ai r k).bs.length≤(ai r k).c:=by
 unfold ai;split;simp;omega;exact h
theorem cj {r:RS}{k:Nat}{M:Nat→Prop}{w:World}(hc:r.bs.length≤r.c)(h:ag M w (av r.p r.bs)):ag M w (av (ai r k).p (ai r k).bs):=by
 unfold ai;split;exact h.imp fun _ h=>h.drop (sz:=1) k hc
 exact h
abbrev bw (b:Nat)(r:RS):Wk.Item:=Wk.box b 238 [.slice r.p r.bs.length r.c,.int .i64 r.why]
theorem PF (b bx:Nat)(r:RS)(k:Nat)(x0:Int)(w0:World)(hk:k≤1000000000)(hc:r.bs.length≤r.c)(hl:r.bs.length≤10000000)(hb:(both (Wk.box bx 239 [.int .u64 x0]) (bw b r)).holds w0)(hx:ag (both (Wk.box bx 239 [.int .u64 x0]) (bw b r)).aj w0 (av r.p r.bs)) :
  aT prog 166 [.pointer (some ⟨b,0,none⟩),.int .i64 (k:Int),.func (.func 233) #[] ⟨[.pointer (some ⟨bx,0,none⟩)]⟩] w0 (both (Wk.box bx 239 [.int .u64 x0]) (bw b r)).aj fun _ w'=>
   (both (Wk.box bx 239 [.int .u64 (iU (aM r k) x0)]) (bw b (ai r k))).holds w':=by
 refine E1 func166 rfl ntmps166 (Wd.ig (x:=Wk.box bx 239 [.int .u64 x0]) (y:=bw b r) (fs:=[av r.p r.bs]) hb rfl rfl (by simpa using hx)) ?_;intro a S;refine gM ?_;intro a S;refine kC S (fun h3=>?_) (fun h3=>?_);refine kK (qw ?_);have hw:¬r.why=0:=by simpa using h3
 have hno:¬u_ r k:=fun h=>hw h.1
 have e1:ai r k=r:=by rw[jz hno,if_neg hw]
 have e2:iU (aM r k) x0=x0:=by rw[nW hno];rfl
 replace S:=S.aL;have hh:=S.it (both (Wk.box bx 239 [.int .u64 x0]) (bw b r));refine iD S (fun _=>by rw[e1,e2];exact hh);refine J4 ?_;intro a S;rw[show decide ((k:Int) < 0)=false from decide_eq_false (by omega)]at S;refine FF ?_;intro a S;refine kC S (fun h6=>?_) (fun h6=>?_);refine Y7 ?_;intro a w S;have hw:r.why=0:=by simpa using h3
 have hno:¬u_ r k:=fun h=>by have:=of_decide_eq_true h6;have:=h.2;omega
 have e1:ai r k=⟨r.p,r.c,r.bs,7⟩:=by rw[jz hno,if_pos hw]
 have e2:iU (aM r k) x0=x0:=by rw[nW hno];rfl
 replace S:=S.aL;have hh:=S.it (both (Wk.box bx 239 [.int .u64 x0]) (bw b ⟨r.p,r.c,r.bs,7⟩));refine iD S (fun _=>by rw[e1,e2];exact hh);refine kS ?_;have sR:eS k r.bs.length:=⟨by simp at h6;omega⟩;have K8:eS r.bs.length r.c:=⟨hc⟩;have Hs:eS k r.c:=⟨by have:=sR.le;omega⟩;refine mK ?_;intro a S;refine Y7 ?_;intro a w S;have hok:u_ r k:=⟨by simpa using h3,sR.le⟩;refine cM (Wk.box bx 239 [.int .u64 x0]) S (AZ bx (r.bs.take k) r.p k r.c x0 w (by rw[List.length_take];have:=sR.le;omega) (by have:=sR.le;omega) (S.box bx) (S.bU (Wk.box bx 239 [.int .u64 x0]) ((S.mem.fact (av r.p r.bs)).imp fun _ h=>h.take k))) rfl ?_;rintro _ a w ju hS;have S:=hS (Wk.box bx 239 [.int .u64 (iU (r.bs.take k) x0)]) ju (fun k h=>.inl h);clear hS;refine kN (qw ?_);rw[←mc hok,show r.bs.length - k=(r.bs.drop k).length from (List.length_drop ..).symm,show r.why=0 from hok.1]at S;replace S:=S.aL;have hh:=S.it (both (Wk.box bx 239 [.int .u64 (iU (aM r k) x0)]) (bw b ⟨if r.c=k then r.p else r.p.map (·.add (k*1)),r.c - k,r.bs.drop k,0⟩));refine iD S (fun _=>by rw[iw hok];exact hh)
theorem va (b:Nat)(r:RS)(k:Nat)(w0:World)(hk:k≤1000000000)(hc:r.bs.length≤r.c)(hl:r.bs.length≤10000000)(hb:(bw b r).holds w0)(hx:ag (fun k=>k=b) w0 (av r.p r.bs)) :
  aT prog 165 [.pointer (some ⟨b,0,none⟩),.int .i64 (k:Int)] w0 (fun k=>k=b) fun v w'=>v=.int .u64 (iU (aM r k) 0)∧(bw b (ai r k)).holds w':=by
 refine E1 func165 rfl ntmps165 (Wd.bV (x:=bw b r) (fs:=[av r.p r.bs]) hb (by intro Φ hΦ;obtain rfl:=List.mem_singleton.1 hΦ;exact hx)) ?_;intro a S;refine kS (kR ?_);refine sa S ?_;intro b4 a w S;refine OP ?_;intro a S;replace S:=S.aL;refine cM (both (Wk.box b4 239 [.int .u64 0]) (bw b r)) S (PF b b4 r k 0 w hk hc hl (S.it (both (Wk.box b4 239 [.int .u64 0]) (bw b r))) (S.bU (both (Wk.box b4 239 [.int .u64 0]) (bw b r)) (S.mem.fact (av r.p r.bs)))) rfl ?_;rintro _ a w ju hS;have S:=hS (both (Wk.box b4 239 [.int .u64 (iU (aM r k) 0)]) (bw b (ai r k))) ju (fun k h=>.inl h);clear hS;replace S:=S.aP;refine Y9 ?_;intro a w S;have hh:=S.it (bw b (ai r k));refine aD S (fun _=>?_);exact ⟨rfl,hh⟩
theorem PG (bo:Nat)(bs:List UInt8)(p:Option Addr)(n c:Nat)(w0:World)(hn:bs.length=n)(hl:n≤10000000)(hb:(Wk.box bo 25 [.slice none 0 0]).holds w0)(hx:ag (fun k=>k=bo) w0 (av p bs)) :
  aT prog 167 [.slice p n c,.pointer (some ⟨bo,0,none⟩)] w0 (fun k=>k=bo) fun _ w'=>∃ p' c',(both (Wk.box bo 25 [.slice p' n c']) (Wk.row 5 1 p' n c' (aa bs))).holds w'∧∀ k,(both (Wk.box bo 25 [.slice p' n c']) (Wk.row 5 1 p' n c' (aa bs))).aj k→k=bo∨w0.heap.size≤k:=by
 have hN:eu bs n:=⟨hn⟩;refine E1 func167 rfl ntmps167 (Wd.bV (x:=Wk.box bo 25 [.slice none 0 0]) (fs:=[av p bs]) hb (by intro Φ hΦ;obtain rfl:=List.mem_singleton.1 hΦ;exact hx)) ?_;intro a S;refine J3 ?_;intro a S;replace S:=S.cP 5 1;refine gA S (by simp[maxLen];omega) (by omega) ?_;rintro p2 c2 a w - S;rw[j6,Nat.zero_add]at S;refine Y2 ?_;intro a w S;replace S:=((S.front (Wk.row 5 1 p2 n c2 (aa bs))).front (Wk.box bo 25 [.slice p2 n c2])).aL;have h1:=S.it (both (Wk.box bo 25 [.slice p2 n c2]) (Wk.row 5 1 p2 n c2 (aa bs)));have h2:=S.bH (both (Wk.box bo 25 [.slice p2 n c2]) (Wk.row 5 1 p2 n c2 (aa bs))) rfl;exact iD S (fun _=>⟨p2,c2,h1,h2⟩)
abbrev IE (bo:Nat)(p:Option Addr)(c:Nat)(bs:List UInt8):Wk.Item:=both (Wk.box bo 25 [.slice p bs.length c]) (Wk.row 5 1 p bs.length c (aa bs))
theorem PI (b bo:Nat)(r:RS)(k:Nat)(w0:World)(hk:k≤10000000000)(hc:r.bs.length≤r.c)(hl:r.bs.length≤10000000)(hb:(both (Wk.box bo 25 [.slice none 0 0]) (bw b r)).holds w0)(hx:ag (both (Wk.box bo 25 [.slice none 0 0]) (bw b r)).aj w0 (av r.p r.bs)) :
  aT prog 166 [.pointer (some ⟨b,0,none⟩),.int .i64 (k:Int),.func (.func 167) #[] ⟨[.pointer (some ⟨bo,0,none⟩)]⟩] w0 (both (Wk.box bo 25 [.slice none 0 0]) (bw b r)).aj fun _ w'=>
   ∃ p' c',(both (IE bo p' c' (aM r k)) (bw b (ai r k))).holds w'∧∀ j,(both (IE bo p' c' (aM r k)) (bw b (ai r k))).aj j→(both (Wk.box bo 25 [.slice none 0 0]) (bw b r)).aj j∨w0.heap.size≤j:=by
 refine E1 func166 rfl ntmps166 (Wd.ig (x:=Wk.box bo 25 [.slice none 0 0]) (y:=bw b r) (fs:=[av r.p r.bs]) hb rfl rfl (by simpa using hx)) ?_;intro a S;refine gM ?_;intro a S;refine kC S (fun h3=>?_) (fun h3=>?_);refine kK (qw ?_);have hw:¬r.why=0:=by simpa using h3
 have hno:¬u_ r k:=fun h=>hw h.1
 have e1:ai r k=r:=by rw[jz hno,if_neg hw]
 have e2:aM r k=[]:=nW hno;replace S:=S.cP 5 1;replace S:=(((S.front (bw b r)).front (Wk.row 5 1 none 0 0 [])).front (Wk.box bo 25 [.slice none 0 0])).aL.aL;have h1:=S.it (both (both (Wk.box bo 25 [.slice none 0 0]) (Wk.row 5 1 none 0 0 [])) (bw b r));have h2:=S.bH (both (both (Wk.box bo 25 [.slice none 0 0]) (Wk.row 5 1 none 0 0 [])) (bw b r)) rfl;refine iD S (fun _=>?_);rw[e1,e2];exact ⟨none,0,h1,h2⟩;refine J4 ?_;intro a S;rw[show decide ((k:Int) < 0)=false from decide_eq_false (by omega)]at S;refine FF ?_;intro a S;refine kC S (fun h6=>?_) (fun h6=>?_);refine Y7 ?_;intro a w S;have hw:r.why=0:=by simpa using h3
 have hno:¬u_ r k:=fun h=>by have:=of_decide_eq_true h6;have:=h.2;omega
 have e1:ai r k=⟨r.p,r.c,r.bs,7⟩:=by rw[jz hno,if_pos hw]
 have e2:aM r k=[]:=nW hno;replace S:=S.cP 5 1;rw[show Wk.box b 238 [.slice r.p r.bs.length r.c,.int .i64 7]=bw b ⟨r.p,r.c,r.bs,7⟩ from rfl]at S;replace S:=(((S.front (bw b ⟨r.p,r.c,r.bs,7⟩)).front (Wk.row 5 1 none 0 0 [])).front (Wk.box bo 25 [.slice none 0 0])).aL.aL;have h1:=S.it (both (both (Wk.box bo 25 [.slice none 0 0]) (Wk.row 5 1 none 0 0 [])) (bw b ⟨r.p,r.c,r.bs,7⟩));have h2:=S.bH (both (both (Wk.box bo 25 [.slice none 0 0]) (Wk.row 5 1 none 0 0 [])) (bw b ⟨r.p,r.c,r.bs,7⟩)) rfl;refine iD S (fun _=>?_);rw[e1,e2];exact ⟨none,0,h1,h2⟩;refine kS ?_;have sR:eS k r.bs.length:=⟨by simp at h6;omega⟩;have K8:eS r.bs.length r.c:=⟨hc⟩;have Hs:eS k r.c:=⟨by have:=sR.le;omega⟩;refine mK ?_;intro a S;refine Y7 ?_;intro a w S;have hok:u_ r k:=⟨by simpa using h3,sR.le⟩;have bn:(r.bs.take k).length=k:=by rw[List.length_take];have:=sR.le;omega
 refine cM (Wk.box bo 25 [.slice none 0 0]) S (PG bo (r.bs.take k) r.p k r.c w bn (by have:=sR.le;omega) (S.box bo) (S.bU (Wk.box bo 25 [.slice none 0 0]) ((S.mem.fact (av r.p r.bs)).imp fun _ h=>h.take k))) rfl ?_;rintro _ a w ⟨p2,c2,ju,iF⟩ hS;have S:=hS (both (Wk.box bo 25 [.slice p2 k c2]) (Wk.row 5 1 p2 k c2 (aa (r.bs.take k)))) ju iF;clear hS;refine kN (qw ?_);have e1:aM r k=r.bs.take k:=mc hok;rw[show r.bs.length - k=(r.bs.drop k).length from (List.length_drop ..).symm,show r.why=0 from hok.1]at S;rw[show Wk.box b 238 [.slice (if r.c=k then r.p else r.p.map (·.add (k*1))) (r.bs.drop k).length (r.c - k),.int .i64 0]=bw b (ai r k) from by rw[iw hok]]at S;replace S:=((S.front (bw b (ai r k))).front (both (Wk.box bo 25 [.slice p2 k c2]) (Wk.row 5 1 p2 k c2 (aa (r.bs.take k))))).aL;have h1:=S.it (both (both (Wk.box bo 25 [.slice p2 k c2]) (Wk.row 5 1 p2 k c2 (aa (r.bs.take k)))) (bw b (ai r k)));have h2:=S.bH (both (both (Wk.box bo 25 [.slice p2 k c2]) (Wk.row 5 1 p2 k c2 (aa (r.bs.take k)))) (bw b (ai r k))) rfl;have e3:IE bo p2 c2 (aM r k)=both (Wk.box bo 25 [.slice p2 k c2]) (Wk.row 5 1 p2 k c2 (aa (r.bs.take k))):=by rw[e1,IE,bn]
 refine iD S (fun _=>⟨p2,c2,?_,?_⟩);rw[e3];exact h1;rw[e3];exact h2
theorem C5 (b:Nat)(r:RS)(k:Nat)(w0:World)(hk:k≤10000000000)(hc:r.bs.length≤r.c)(hl:r.bs.length≤10000000)(hb:(bw b r).holds w0)(hx:ag (fun k=>k=b) w0 (av r.p r.bs)) :
  aT prog 68 [.pointer (some ⟨b,0,none⟩),.int .i64 (k:Int)] w0 (fun k=>k=b) fun v w'=>∃ p' c',v=.slice p' (aM r k).length c'∧(both (Wk.row 5 1 p' (aM r k).length c' (aa (aM r k))) (bw b (ai r k))).holds w'∧∀ j,(both (Wk.row 5 1 p' (aM r k).length c' (aa (aM r k))) (bw b (ai r k))).aj j→j=b∨w0.heap.size≤j:=by
 refine E1 func68 rfl ntmps68 (Wd.bV (x:=bw b r) (fs:=[av r.p r.bs]) hb (by intro Φ hΦ;obtain rfl:=List.mem_singleton.1 hΦ;exact hx)) ?_;intro a S;refine kS (kR ?_);refine sa S ?_;intro b4 a w S;refine FF ?_;intro a S;replace S:=S.aL;refine cM (both (Wk.box b4 25 [.slice none 0 0]) (bw b r)) S (PI b b4 r k w hk hc hl (S.it (both (Wk.box b4 25 [.slice none 0 0]) (bw b r))) (S.bU (both (Wk.box b4 25 [.slice none 0 0]) (bw b r)) (S.mem.fact (av r.p r.bs)))) rfl ?_;rintro _ a w ⟨p2,c2,ju,iF⟩ hS;have S:=hS (both (IE b4 p2 c2 (aM r k)) (bw b (ai r k))) ju iF;clear hS;replace S:=S.aP.aP;refine Y9 ?_;intro a w S;replace S:=((S.front (bw b (ai r k))).front (Wk.row 5 1 p2 (aM r k).length c2 (aa (aM r k)))).aL;have h1:=S.it (both (Wk.row 5 1 p2 (aM r k).length c2 (aa (aM r k))) (bw b (ai r k)));have h2:=S.bH (both (Wk.row 5 1 p2 (aM r k).length c2 (aa (aM r k))) (bw b (ai r k))) rfl;exact aD S (fun _=>⟨p2,c2,rfl,h1,h2⟩)
def aV (bs:List UInt8)(x:Nat):Nat:=bs.foldl (fun x c=>256*x+c.toNat) x
theorem oM (c:UInt8)(bs:List UInt8)(x:Nat):aV (c::bs) x=aV bs (256*x+c.toNat):=rfl
theorem yV (bs:List UInt8):∀ x:Nat,aV bs x < (x+1)*256 ^ bs.length:=by
 induction bs with
 | nil=>intro x;simp[aV]
 | cons c bs ih=>
  intro x;rw[oM];have h1:=ih (256*x+c.toNat);have h2:=c.toNat_lt;have h3:(256*x+c.toNat+1)*256 ^ bs.length≤(256*(x+1))*256 ^ bs.length:=Nat.mul_le_mul_right _ (by omega);have h4:(256*(x+1))*256 ^ bs.length=(x+1)*256 ^ (c::bs).length:=by
   rw[jb,Nat.pow_succ,Nat.mul_comm 256 (x+1),Nat.mul_assoc,Nat.mul_comm 256]
  omega
theorem IF (bs:List UInt8):∀ x:Nat,(x+1)*256 ^ bs.length≤18446744073709551616→iU bs (x:Int)=(aV bs x:Int):=by
 induction bs with
 | nil=>intro x _;rfl
 | cons c bs ih=>
  intro x hx;have h2:=c.toNat_lt;have h5:1≤256 ^ bs.length:=Nat.one_le_pow _ _ (by decide);have h4:(256*(x+1))*256 ^ bs.length=(x+1)*256 ^ (c::bs).length:=by
   rw[jb,Nat.pow_succ,Nat.mul_comm 256 (x+1),Nat.mul_assoc,Nat.mul_comm 256]
  have h6:256*(x+1)≤18446744073709551616:=by
   have:=Nat.mul_le_mul_left (256*(x+1)) h5;omega
  have h3:(256*x+c.toNat+1)*256 ^ bs.length≤(256*(x+1))*256 ^ bs.length:=Nat.mul_le_mul_right _ (by omega);rw[oM,←ih _ (by omega)]
  show iU bs (IntKind.u64.wrap (IntKind.u64.wrap (256*(x:Int))+(c.toNat:Int)))=_
  rw[jV (256*(x:Int)) (by omega) (by omega),jV _ (by omega) (by omega)]
  norm_cast
theorem ck (r:RS)(k:Nat)(hk:k≤7):iU (aM r k) 0=(aV (aM r k) 0:Int)∧aV (aM r k) 0 < 256 ^ k:=by
 have h1:=(me r k).1;have h2:256 ^ (aM r k).length≤256 ^ k:=Nat.pow_le_pow_right (by decide) h1;have h3:256 ^ k≤256 ^ 7:=Nat.pow_le_pow_right (by decide) hk;have h4:(256:Nat) ^ 7≤18446744073709551616:=by decide
 have h5:=yV (aM r k) 0;exact ⟨IF _ 0 (by omega),by omega⟩
theorem sV (b:Nat)(r:RS)(w0:World)(hc:r.bs.length≤r.c)(hl:r.bs.length≤10000000)(hb:(bw b r).holds w0)(hx:ag (fun k=>k=b) w0 (av r.p r.bs)) :
  aT prog 67 [.pointer (some ⟨b,0,none⟩)] w0 (fun k=>k=b) fun v w'=>v=.int .u8 (aV (aM r 1) 0:Nat)∧(bw b (ai r 1)).holds w':=by
 have hn:=ck r 1 (by decide);refine E1 func67 rfl ntmps67 (Wd.bV (x:=bw b r) (fs:=[av r.p r.bs]) hb (by intro Φ hΦ;obtain rfl:=List.mem_singleton.1 hΦ;exact hx)) ?_;intro a S;refine J8 ?_;intro a S;refine cM (bw b r) S (va b r 1 _ (by decide) hc hl (S.it (bw b r)) (S.bU (bw b r) (S.mem.fact (av r.p r.bs)))) rfl ?_;rintro _ a w ⟨rfl,hh⟩ hS;have S:=hS (bw b (ai r 1)) hh (fun k h=>.inl h);clear hS;rw[hn.1]at S;refine J1 ?_;intro a S;rw[show IntKind.u8.wrap ((aV (aM r 1) 0:Nat):Int)=((aV (aM r 1) 0:Nat):Int) from by
  unfold IntKind.wrap;simp only[IntKind.bits,IntKind.signed,Bool.false_and];simp;omega]at S
 refine J4 ?_;intro a S;have hh:=S.it (bw b (ai r 1));exact aD S (fun _=>⟨rfl,hh⟩)
theorem hH (b:Nat)(r:RS)(w0:World)(hc:r.bs.length≤r.c)(hl:r.bs.length≤10000000)(hb:(bw b r).holds w0)(hx:ag (fun k=>k=b) w0 (av r.p r.bs)) :
  aT prog 69 [.pointer (some ⟨b,0,none⟩)] w0 (fun k=>k=b) fun v w'=>v=.int .u16 (aV (aM r 2) 0:Nat)∧(bw b (ai r 2)).holds w':=by
 have hn:=ck r 2 (by decide);refine E1 func69 rfl ntmps69 (Wd.bV (x:=bw b r) (fs:=[av r.p r.bs]) hb (by intro Φ hΦ;obtain rfl:=List.mem_singleton.1 hΦ;exact hx)) ?_;intro a S;refine J8 ?_;intro a S;refine cM (bw b r) S (va b r 2 _ (by decide) hc hl (S.it (bw b r)) (S.bU (bw b r) (S.mem.fact (av r.p r.bs)))) rfl ?_;rintro _ a w ⟨rfl,hh⟩ hS;have S:=hS (bw b (ai r 2)) hh (fun k h=>.inl h);clear hS;rw[hn.1]at S;refine J1 ?_;intro a S;rw[show IntKind.u16.wrap ((aV (aM r 2) 0:Nat):Int)=((aV (aM r 2) 0:Nat):Int) from by
  unfold IntKind.wrap;simp only[IntKind.bits,IntKind.signed,Bool.false_and];simp;omega]at S
 refine J4 ?_;intro a S;have hh:=S.it (bw b (ai r 2));exact aD S (fun _=>⟨rfl,hh⟩)
theorem yW (b:Nat)(r:RS)(w0:World)(hb:Fx w0 (az b 238 (La r))):aT prog 71 [.pointer (some ⟨b,0,none⟩)] w0 (fun _=>False) fun v _=>v=.int .i64 r.why:=by
 refine E1 func71 rfl ntmps71 (Wd.begin (fs:=[az b 238 (La r)]) (by simpa using hb)) ?_;intro a S;refine mK ?_;intro a S;refine J6 ?_;intro a S;exact aD S (fun _=>rfl)
theorem Mc (b:Nat)(r:RS)(w0:World)(hb:Fx w0 (az b 238 (La r))):aT prog 72 [.pointer (some ⟨b,0,none⟩)] w0 (fun _=>False) fun v _=>v=.int .i64 (r.bs.length:Nat):=by
 refine E1 func72 rfl ntmps72 (Wd.begin (fs:=[az b 238 (La r)]) (by simpa using hb)) ?_;intro a S;refine mK ?_;intro a S;refine J7 ?_;intro a S;exact aD S (fun _=>rfl)
theorem EL (bs:List UInt8)(p:Option Addr)(n c:Nat)(w0:World)(hn:bs.length=n)(hl:n≤10000000)(hx:Fx w0 (av p bs)) :
  aT prog 66 [.slice p n c] w0 (fun _=>False) fun v w'=>∃ b p' c',v=.pointer (some ⟨b,0,none⟩)∧(both (bw b ⟨p',c',bs,0⟩) (Wk.row 5 1 p' bs.length c' (aa bs))).holds w'∧∀ k,(both (bw b ⟨p',c',bs,0⟩) (Wk.row 5 1 p' bs.length c' (aa bs))).aj k→w0.heap.size≤k:=by
 subst hn;refine E1 func66 rfl ntmps66 (Wd.begin (fs:=[av p bs]) (by simpa using hx)) ?_;intro a S;refine J8 ?_;intro a S;replace S:=S.cP 5 1;refine gA S (by simp[maxLen];omega) (by omega) ?_;rintro p2 c2 a w - S;rw[j6,Nat.zero_add]at S;refine J2 ?_;intro a S;refine sa S ?_;intro b7 a w S;refine J4 ?_;intro a S;replace S:=((S.front (Wk.row 5 1 p2 bs.length c2 (aa bs))).front (bw b7 ⟨p2,c2,bs,0⟩)).aL;have h1:=S.it (both (bw b7 ⟨p2,c2,bs,0⟩) (Wk.row 5 1 p2 bs.length c2 (aa bs)));have h2:=S.bH (both (bw b7 ⟨p2,c2,bs,0⟩) (Wk.row 5 1 p2 bs.length c2 (aa bs))) rfl;exact aD S (fun _=>⟨b7,p2,c2,rfl,h1,fun k hk=>(h2 k hk).elim (fun h=>h.elim) id⟩)
abbrev pn (α:Type):=Except Int α
def gz (k:Int)(bs:List UInt8):pn (List UInt8 × List UInt8):=
 if cm (fieldsOf k) 1 then
  match bs with
  | []=>.error 7
  | n::bs=>if 64 < n.toNat then .error 150 else if bs.length < n.toNat then .error 7 else .ok (bs.take n.toNat,bs.drop n.toNat)
 else .ok ([],bs)
def h_ (k:Int)(bs:List UInt8):pn (Int × List UInt8):=
 if cm (fieldsOf k) 2 then
  match bs with
  | []=>.error 7
  | u::bs=>if 1≤u.toNat∧u.toNat≤6 then .ok ((u.toNat:Int),bs) else .error 150
 else .ok (0,bs)
def nG (k:Int)(bs:List UInt8):pn (Int × List UInt8):=
 if cm (fieldsOf k) 4 then (if bs.length < 2 then .error 7 else .ok ((aV (bs.take 2) 0:Int),bs.drop 2)) else .ok (0,bs)
def e8 (f:Nat→List UInt8→pn (Term × Nat × List UInt8)):Nat→Nat→List UInt8→pn (List Term × Nat × List UInt8)
 | 0,left,bs=>.ok ([],left,bs)
 | k+1,left,bs=>match f left bs with
  | .error e=>.error e
  | .ok (t,left,bs)=>match e8 f k left bs with
   | .error e=>.error e
   | .ok (ts,left,bs)=>.ok (t::ts,left,bs)
def fL (k:Int):Nat:=(jt (fieldsOf k)).toNat
def iq:Nat→Nat→List UInt8→pn (Term × Nat × List UInt8)
 | _,_,[]=>.error 7
 | 0,_,_::_=>.error 150
 | m+1,left,c::bs=>
  if fieldsOf (c.toNat:Int)=0∨left=0 then .error 150 else
  match gz (c.toNat:Int) bs with
  | .error e=>.error e
  | .ok (s,bs)=>match h_ (c.toNat:Int) bs with
   | .error e=>.error e
   | .ok (u,bs)=>match nG (c.toNat:Int) bs with
    | .error e=>.error e
    | .ok (n,bs)=>match e8 (iq m) (fL (c.toNat:Int)) (left - 1) bs with
     | .error e=>.error e
     | .ok (ks,left,bs)=>.ok (.mk (c.toNat:Int) u n s ks,left,bs)
def o9 (f:Nat→List UInt8→pn (Term × Nat × List UInt8))(left:Nat)(k:Int)(bs:List UInt8):pn (Term × Nat × List UInt8):=
 match gz k bs with
 | .error e=>.error e
 | .ok (s,bs)=>match h_ k bs with
  | .error e=>.error e
  | .ok (u,bs)=>match nG k bs with
   | .error e=>.error e
   | .ok (n,bs)=>match e8 f (fL k) (left - 1) bs with
    | .error e=>.error e
    | .ok (ks,left,bs)=>.ok (.mk k u n s ks,left,bs)
theorem nX (m left:Nat):iq m left []=.error 7:=by cases m <;> rfl
theorem gV (m left:Nat)(c:UInt8)(bs:List UInt8):iq m left (c::bs)=if m=0∨fieldsOf (c.toNat:Int)=0∨left=0 then .error 150 else o9 (iq (m - 1)) left (c.toNat:Int) bs:=by
 cases m with
 | zero=>rw[if_pos (.inl rfl)];rfl
 | succ m=>
  rw[iq]
  by_cases h:fieldsOf (c.toNat:Int)=0∨left=0
  rw[if_pos h,if_pos (.inr h)];rw[if_neg h,if_neg (fun h2=>h2.elim (fun h=>by cases h) h)];rfl
def mg (x wd k:Nat):UInt8:=Wk.u8 (x / 256 ^ (wd - 1 - k):Nat)
theorem Md (x wd k:Nat)(w0:World)(hx:x < 18446744073709551616)(hw:wd≤1000)(hk:k < wd):aT prog 255 [.int .u64 (x:Nat),.int .i64 (wd:Nat),.int .i64 (k:Nat)] w0 (fun _=>False) fun v _=>v=.int .u8 ((mg x wd k).toNat:Int):=by
 refine E1 func255 rfl ntmps255 (Wd.start w0) ?_;intro a S;refine J7 ?_;intro a S;refine yL S (fun(j:Nat) (y:Nat) uu=>[(0,.int .u64 (y:Nat)),(1,.int .i64 (j:Nat)),(4,uu 7),(0,uu 8),(0,uu 9),(0,uu 10),(0,uu 11),(0,uu 12),(0,uu 13),(0,uu 14)]) (fun(j:Nat) (y:Nat)=>k≤j∧j≤wd - 1∧y=x / 256 ^ (j - k)) (fun(j:Nat) (y:Nat)=>wd - j) (k) (x) ?_ S.uu ?_ ?_;exact ⟨Nat.le_refl _,by omega,by rw[Nat.sub_self,Nat.pow_zero,Nat.div_one]⟩
 first | exact S | exact S.sub _ _
 clear S;rintro j y uu a w ⟨VX,hj2,hy⟩ S;refine J6 ?_;intro a S;rw[w6 ((wd:Int) - 1)]at S;refine J3 ?_;intro a S;refine kC S (fun h1=>?_) (fun h1=>?_);refine kK (aQ (kB ?_));have hjl:j < wd - 1:=by simp at h1;omega
 have hyx:y≤x:=by rw[hy];exact Nat.div_le_self _ _
 have hNZ:NZ (256:Int):=⟨by decide⟩;refine J3 ?_;intro a S;rw[show ((y:Int).tdiv 256)=((y / 256:Nat):Int) from rfl,jV _ (by omega) (by omega)]at S;refine J2 ?_;intro a S;rw[w6 ((j:Int)+1),show (j:Int)+1=((j+1:Nat):Int) from rfl]at S;refine J5 ?_;intro a S;refine ⟨j+1,y / 256,S.uu,⟨by omega,by omega,?_⟩,S.sub _ _,by omega⟩;rw[hy,Nat.div_div_eq_div_mul,←Nat.pow_succ,show (j - k).succ=j+1 - k from by omega];refine J8 ?_;intro a S;have hNZ:NZ (256:Int):=⟨by decide⟩;have hyx:y≤x:=by rw[hy];exact Nat.div_le_self _ _
 refine J1 ?_;intro a S;rw[show ((y:Int).tmod 256)=((y % 256:Nat):Int) from rfl]at S;refine J5 ?_;intro a S;have hjw:j=wd - 1:=by simp at h1;omega
 refine aD S (fun _=>?_);rw[cF,mg];have:Wk.u8 ((y % 256:Nat):Int)=Wk.u8 ((x / 256 ^ (wd - 1 - k):Nat):Int):=by
  rw[hy,hjw];unfold Wk.u8
  congr 1
  omega
 rw[this]
def yX (w x:Nat):List UInt8:=(List.range w).map fun k=>mg x w k
theorem PJ (w x:Nat):yX w x=be w (x:Int):=by
 rw[yX,be];refine List.map_congr_left fun k hk=>?_
 rw[mg]
 congr 1
 rw[show (2:Int) ^ (8*(w - 1 - k))=((256 ^ (w - 1 - k):Nat):Int) from by rw[show (256:Nat)=2 ^ 8 from rfl,←Nat.pow_mul,Int.natCast_pow];rfl];rw[Int.fdiv_eq_ediv_of_nonneg _ (Int.natCast_nonneg _)];rfl
theorem yY (w x:Nat):(yX w x).length=w:=by simp[yX]
theorem IG (w x k:Nat)(h:k < w):(yX w x).take (k+1)=(yX w x).take k++[mg x w k]:=by
 have hl:k < (yX w x).length:=by rw[yY];exact h
 rw[List.take_succ_eq_append_getElem hl]
 congr 2
 simp[yX]
theorem yZ (x wd:Nat)(w0:World)(hx:x < 18446744073709551616)(hw:wd≤1000):aT prog 215 [.int .u64 (x:Nat),.int .i64 (wd:Nat)] w0 (fun _=>False) fun v w'=>
  ∃ (p':Option Addr) (c':Nat),v=.slice p' (yX wd x).length c'∧w'.ownsRow 0 5 1 (.slice p' (yX wd x).length c') (yX wd x).length (aa (yX wd x))∧∀ ad,p'=some ad→w0.heap.size≤ad.block:=by
 refine E1 func215 rfl ntmps215 (Wd.start w0) ?_;intro a S;refine D8 ?_;intro a S;refine LJ S (fun(k:Nat) (b:List UInt8) (p':Option Addr) (c':Nat) uu=>[(5,.slice p' b.length c'),(0,.int .i64 (k:Nat)),(0,uu 7),(0,uu 8),(0,uu 9),(0,uu 10),(0,uu 11),(0,uu 12),(0,uu 13),(0,uu 14),(0,uu 15),(0,uu 16),(0,uu 17),(0,uu 18)]) (fun(k:Nat) (b:List UInt8) (p':Option Addr) (c':Nat)=>[Wk.row 5 1 p' b.length c' (aa b)]) (fun(k:Nat) (b:List UInt8) (p':Option Addr) (c':Nat)=>k≤wd∧b=(yX wd x).take k) (fun(k:Nat) (b:List UInt8) (p':Option Addr) (c':Nat)=>wd - k) (0) ([]) (none) (0) ?_ S.uu ?_ ?_;exact ⟨Nat.zero_le _,rfl⟩;replace S:=S.cP 5 1;rw[show Wk.row 5 1 none 0 0 []=Wk.row 5 1 none 0 0 (aa ([]:List UInt8)) from rfl]at S;exact S.sub _ _;clear S;rintro k b p' c' uu a w ⟨hk,hb⟩ S;refine J8 ?_;intro a S;refine kC S (fun h3=>?_) (fun h3=>?_);refine kK (aQ (kS (kB ?_)));have bn:k < wd:=by simp at h3;omega
 have wH:b.length=k:=by rw[hb,List.length_take,yY];omega
 refine J5 ?_;intro a S;refine sr S (Md x wd k _ hx hw bn) ?_;rintro _ a w1 rfl S;refine sn S ?_;intro fz a w S;refine gA S (by simp[maxLen];omega) (by omega) ?_;rintro p1 c1 a w1 - S;rw[show aa b++[Value.int .u8 ((mg x wd k).toNat:Int)]=aa (b++[mg x wd k]) from by rw[aC];rfl,show b.length+1=(b++[mg x wd k]).length from by simp]at S;refine J7 ?_;intro a S;rw[w6 ((k:Int)+1),show (k:Int)+1=((k+1:Nat):Int) from rfl]at S;refine J3 ?_;intro a S;exact ⟨k+1,b++[mg x wd k],p1,c1,S.uu,⟨bn,by rw[IG wd x k bn,←hb]⟩,S.sub _ _,by omega⟩;refine jq ?_;intro a S;have hk2:k=wd:=by simp at h3;omega
 obtain rfl:b=yX wd x:=by rw[hb,List.take_of_length_le (by rw[yY];omega)]
 have hrow:=S.row p' (yX wd x).length;have hnew:=S.cQ p' (yX wd x).length;exact aD S (fun _=>⟨p',c',rfl,hrow,fun ad h=>(hnew ad h).elim (fun h=>h.elim) id⟩)
theorem A0:∀ n:Nat,aa (List.replicate n (0:UInt8))=List.replicate n (Value.int .u8 0)
 | 0=>rfl
 | n+1=>by rw[rQ,rQ,bf,A0 n];rfl
theorem F7 {xs ys:List UInt8}{k:Nat}(h:k < xs.length):aq (xs++ys) k=aq xs k:=by
 have h1:=bu (xs:=xs++ys) (k:=k) (by rw[List.length_append];omega);have h2:=bu h;rw[List.getElem?_append_left h,h2]at h1;exact (Option.some.inj h1).symm
theorem C6 {xs ys:List UInt8}{k:Nat}(h:xs.length≤k)(h2:k < xs.length+ys.length):aq (xs++ys) k=aq ys (k - xs.length):=by
 have h1:=bu (xs:=xs++ys) (k:=k) (by rw[List.length_append];omega);have h3:=bu (xs:=ys) (k:=k - xs.length) (by omega);rw[List.getElem?_append_right h,h3]at h1;exact (Option.some.inj h1).symm
theorem xA {ab:List UInt8}{k n:Nat}(hn:ab.length=n)(hk:k < n)(y:UInt8)(hy:y=aq ab k) :
  (aa (ab.take k++List.replicate (n - k) 0)).take k++[.int .u8 (y.toNat:Int)]++(aa (ab.take k++List.replicate (n - k) 0)).drop (k + [Value.int .u8 (y.toNat:Int)].length)=aa (ab.take (k+1)++List.replicate (n - (k+1)) 0):=by
 have h1:(ab.take k).length=k:=by rw[List.length_take];omega
 have h2:List.replicate (n - k) (0:UInt8)=0::List.replicate (n - (k+1)) 0:=by rw[show n - k=(n - (k+1))+1 from by omega,rQ]
 have:=lW (ab.take k) (List.replicate (n - (k+1)) 0) 0 y;rw[h1]at this;rw[h2,List.length_singleton,this,qb (by omega),←hy];simp
theorem vb (xs ys:List UInt8)(p q:Option Addr)(n m c d:Nat)(w0:World)(hn:xs.length=n)(hm:ys.length=m)(hl:n+m≤1073741824)(fx:Fx w0 (av p xs))(fy:Fx w0 (av q ys)) :
  aT prog 216 [.slice p n c,.slice q m d] w0 (fun _=>False) fun v w'=>
  ∃ (p':Option Addr) (c':Nat),v=.slice p' (xs++ys).length c'∧w'.ownsRow 0 5 1 (.slice p' (xs++ys).length c') (xs++ys).length (aa (xs++ys))∧∀ ad,p'=some ad→w0.heap.size≤ad.block:=by
 subst hn hm;obtain ⟨N,hN⟩:∃ N,N=xs.length+ys.length:=⟨_,rfl⟩;obtain ⟨zs,hzs⟩:∃ zs,zs=xs++ys:=⟨_,rfl⟩;have hzl:zs.length=N:=by rw[hzs,List.length_append,hN]
 refine E1 func216 rfl ntmps216 (Wd.begin (fs:=[av p xs,av q ys]) (by simp;exact ⟨fx,fy⟩)) ?_;intro a S;refine jq ?_;intro a S;rw[w6 ((xs.length:Int)+ys.length),show (xs.length:Int)+ys.length=((N:Nat):Int) from by omega]at S;refine NO N S rfl rfl (by omega) (by simp only[maxLen];omega) ?_;intro g a w S;rw[show (List.replicate N [Value.int .u8 0]).flatten=aa (zs.take 0++List.replicate (N - 0) (0:UInt8)) from by have:=nO 0 N (Value.int .u8 0);rw[Nat.zero_mul,List.drop_zero,Nat.zero_add]at this;rw[this,List.take_zero,j6,Nat.sub_zero,A0]]at S;refine jq ?_;intro a S;refine yK S (fun(k:Nat) uu=>[(6,uu 6),(8,.int .i64 (k:Nat)),(0,uu 16),(0,uu 17),(0,uu 18),(0,uu 19),(0,uu 20),(0,uu 21),(0,uu 22),(0,uu 23),(0,uu 24),(0,uu 25),(0,uu 26),(0,uu 27),(0,uu 28),(0,uu 29),(0,uu 30),(0,uu 31),(0,uu 32),(0,uu 33),(0,uu 34),(0,uu 35),(0,uu 36),(0,uu 37),(0,uu 38),(0,uu 39)]) (fun(k:Nat)=>[Wk.row 5 1 (some ⟨g,0,none⟩) N N (aa (zs.take k++List.replicate (N - k) 0))]) (fun(k:Nat)=>k≤N) (fun(k:Nat)=>N - k) (0) ?_ S.uu ?_ ?_;exact Nat.zero_le _
 first | exact S | exact S.sub _ _
 clear S;rintro k uu a w hk S;refine J6 ?_;intro a S;refine kC S (fun h3=>?_) (fun h3=>?_);refine kK (aQ (kS (kB (kS ?_))));have bn:k < N:=by simp at h3;omega
 have hKN:cx k N:=⟨bn⟩;refine rP ?_;intro a S;refine kC S (fun h5=>?_) (fun h5=>?_);have Tn:k < xs.length:=by simpa using h5
 have hK:cx k xs.length:=⟨Tn⟩;refine J8 ?_;intro a S;rw[show (⟨g,k,none⟩:Addr)=dx (some ⟨g,0,none⟩) k from by rw[dx,Option.getD_some,add_lit]]at S;refine CJ S N (by omega) (by omega) ?_;intro a w S;rw[xA hzl bn (aq xs k) (by rw[hzs];exact (F7 Tn).symm)]at S;refine J8 ?_;intro a S;rw[w6 ((k:Int)+1)]at S;exact ⟨k+1,S.uu,bn,S.sub _ _,by omega⟩;refine J7 ?_;intro a S;have Tn:¬k < xs.length:=by simpa using h5
 refine J1 ?_;intro a S;rw[w6 ((k:Int) - xs.length),show (k:Int) - xs.length=((k - xs.length:Nat):Int) from by omega]at S;have hK:cx (k - xs.length) ys.length:=⟨by omega⟩;refine J3 ?_;intro a S;rw[show (⟨g,k,none⟩:Addr)=dx (some ⟨g,0,none⟩) k from by rw[dx,Option.getD_some,add_lit]]at S;refine CJ S N (by omega) (by omega) ?_;intro a w S;rw[xA hzl bn (aq ys (k - xs.length)) (by rw[hzs];exact (C6 (by omega) (by omega)).symm)]at S;refine J8 ?_;intro a S;rw[w6 ((k:Int)+1)]at S;exact ⟨k+1,S.uu,bn,S.sub _ _,by omega⟩;refine jq ?_;intro a S;have hk2:k=N:=by simp at h3;omega
 subst hk2;rw[List.take_of_length_le (by omega),Nat.sub_self,Lj,List.append_nil]at S;have hrow:=S.row (some ⟨g,0,none⟩) k;have hnew:=S.cQ (some ⟨g,0,none⟩) k;rw[←hzs,hzl];exact aD S (fun _=>⟨_,_,rfl,hrow,fun ad h=>(hnew ad h).elim (fun h=>h.elim) id⟩)
theorem y_ (bs:List UInt8)(p:Option Addr)(n c:Nat)(w0:World)(hn:bs.length=n)(hl:n≤1000000)(hx:Fx w0 (av p bs)) :
  aT prog 66 [.slice p n c] w0 (fun _=>False) fun v w'=>∃ (b:Nat) (q:Option Addr) (e:Nat),v=.pointer (some ⟨b,0,none⟩)∧w0.heap.size≤b∧(Wk.box b 238 [.slice q bs.length e,.int .i64 0]).holds w'∧bs.length≤e∧ag (fun k=>k < w0.heap.size∨k=b) w' (av q bs):=by
 subst hn;refine E1 func66 rfl ntmps66 (Wd.begin (fs:=[av p bs]) (by simpa using hx)) ?_;intro a S;refine J8 ?_;intro a S;replace S:=S.cP 5 1;refine gA S (by simp[maxLen];omega) (by omega) ?_;rintro p1 c1 a w - S;rw[j6,Nat.zero_add]at S;have lR:=gm (S.row p1 bs.length);refine J2 ?_;intro a S;refine sa S ?_;intro b7 a w S;refine J4 ?_;intro a S;have hb:=(S.mS b7).elim (fun h=>h.elim) id;have hh:=S.box b7;have hrow:=S.row p1 bs.length;have hnew:=S.cQ p1 bs.length;have hap:=fun k hk=>St.gj S (Wk.box b7 238 [.slice p1 bs.length c1,.int .i64 0]) (Wk.row 5 1 p1 bs.length c1 (aa bs)) k hk
 refine aD S (fun _=>?_);refine ⟨b7,p1,c1,rfl,hb,hh,lR,gJ hrow (fun _ _ _ _=>trivial) (fun ad had hm=>?_)⟩;rcases hm with h | h
 exact (hnew ad had).elim (fun h=>h.elim) (fun h2=>by omega);exact hap b7 rfl ⟨ad,had,h.symm⟩
def qd (bs:List UInt8):Int:=IntKind.u32.wrap (iU (bs.take 4) 0)
def F8 (bs:List UInt8):Int:=IntKind.u16.wrap (iU (bs.take 2) 0)
theorem II (b:Nat)(bs:List UInt8)(p:Option Addr)(c:Nat)(w0:World)(hk:4≤bs.length)(hc:bs.length≤c)(hl:bs.length≤1000000)(hb:(Wk.box b 238 [.slice p bs.length c,.int .i64 0]).holds w0)(hx:ag (fun k=>k=b) w0 (av p bs)) :
  aT prog 217 [.pointer (some ⟨b,0,none⟩)] w0 (fun k=>k=b) fun v w'=>v=.int .u32 (qd bs)∧
   (Wk.box b 238 [.slice (if c=4 then p else p.map (·.add (4*1))) (bs.length - 4) (c - 4),.int .i64 0]).holds w':=by
 refine E1 func217 rfl ntmps217 (Wd.bV (x:=Wk.box b 238 [.slice p bs.length c,.int .i64 0]) (fs:=[av p bs]) hb (by intro Φ hΦ;obtain rfl:=List.mem_singleton.1 hΦ;exact hx)) ?_;intro a S;refine J8 ?_;intro a S;refine cM (Wk.box b 238 [.slice p bs.length c,.int .i64 0]) S (EK b bs p c 4 _ hk hc (by omega) (S.box b) (S.bU (Wk.box b 238 [.slice p bs.length c,.int .i64 0]) (S.mem.fact (av p bs)))) rfl ?_;rintro _ a w ⟨rfl,ju⟩ hS;have S:=hS (Wk.box b 238 [.slice (if c=4 then p else p.map (·.add (4*1))) (bs.length - 4) (c - 4),.int .i64 0]) ju (fun k h=>.inl h);clear hS;refine J5 ?_;intro a S;have hh:=S.box b;refine aD S (fun _=>?_);exact ⟨rfl,hh⟩
theorem To (b:Nat)(bs:List UInt8)(p:Option Addr)(c:Nat)(w0:World)(hk:2≤bs.length)(hc:bs.length≤c)(hl:bs.length≤1000000)(hb:(Wk.box b 238 [.slice p bs.length c,.int .i64 0]).holds w0)(hx:ag (fun k=>k=b) w0 (av p bs)) :
  aT prog 69 [.pointer (some ⟨b,0,none⟩)] w0 (fun k=>k=b) fun v w'=>v=.int .u16 (F8 bs)∧
   (Wk.box b 238 [.slice (if c=2 then p else p.map (·.add (2*1))) (bs.length - 2) (c - 2),.int .i64 0]).holds w':=by
 refine E1 func69 rfl ntmps69 (Wd.bV (x:=Wk.box b 238 [.slice p bs.length c,.int .i64 0]) (fs:=[av p bs]) hb (by intro Φ hΦ;obtain rfl:=List.mem_singleton.1 hΦ;exact hx)) ?_;intro a S;refine J8 ?_;intro a S;refine cM (Wk.box b 238 [.slice p bs.length c,.int .i64 0]) S (EK b bs p c 2 _ hk hc (by omega) (S.box b) (S.bU (Wk.box b 238 [.slice p bs.length c,.int .i64 0]) (S.mem.fact (av p bs)))) rfl ?_;rintro _ a w ⟨rfl,ju⟩ hS;have S:=hS (Wk.box b 238 [.slice (if c=2 then p else p.map (·.add (2*1))) (bs.length - 2) (c - 2),.int .i64 0]) ju (fun k h=>.inl h);clear hS;refine J5 ?_;intro a S;have hh:=S.box b;refine aD S (fun _=>?_);exact ⟨rfl,hh⟩
def ve (x:Int)(n:Nat):Int:=Sg .u32 (x.fdiv (2 ^ (min n IntKind.u32.bits))) (IntKind.u32.wrap (x*2 ^ (min (32 - n) IntKind.u32.bits)))
def nY (x:Int)(n:Nat):Int:=x.fdiv (2 ^ (min n IntKind.u32.bits))
theorem vf (x:Int)(n:Nat)(hn:n≤32)(w0:World):aT prog 274 [.int .u32 x,.int .i64 (n:Int)] w0 (fun _=>False) fun v _=>v=.int .u32 (ve x n):=by
 refine E1 func274 rfl ntmps274 (Wd.start w0) ?_;intro a S;refine J6 ?_;intro a S;refine bM [T9 0,T9 1,T9 2,T9 3,T9 4,T9 5,T9 6,T9 7,T9 8] [] S ?_;intro w S;refine J6 ?_;intro a S;rw[show IntKind.i64.wrap (32 - (n:Int))=((32 - n:Nat):Int) from by rw[w6 _];omega]at S;(iterate 3 (refine dq S ?_;intro a S));refine dn (aQ (kT ?_));refine aD S (fun _=>rfl)
theorem IJ (x:Int)(n:Nat)(w0:World):aT prog 273 [.int .u32 x,.int .i64 (n:Int)] w0 (fun _=>False) fun v _=>v=.int .u32 (nY x n):=by
 refine E1 func273 rfl ntmps273 (Wd.start w0) ?_;intro a S;refine ug ?_;intro a S;refine aD S (fun _=>rfl)
def rY (G:Int→Nat→Int)(a b c:Nat)(x:Int):Int:=FI .u32 (FI .u32 (ve x a) (ve x b)) (G x c)
theorem N8 (F:Nat)[aF prog F](G:Int→Nat→Int)(na nb nc:Nat)(x:Int)(ha:na≤32)(hb:nb≤32)(hF:∀ w,aT prog F [.int .u32 x,.int .i64 (nc:Int)] w (fun _=>False) fun v _=>v=.int .u32 (G x nc))(w0:World) :
  aT prog 276 [.agg ⟨[.int .i64 (na:Int),.int .i64 (nb:Int),.int .i64 (nc:Int),.func (.func F) #[] #[]]⟩,.int .u32 x] w0 (fun _=>False) fun v _=>v=.int .u32 (rY G na nb nc x):=by
 refine E1 func276 rfl ntmps276 (Wd.start w0) ?_;intro a S;refine kS (kR ?_);refine sa S ?_;intro b2 a w S;refine J4 ?_;intro a S;refine bM [T9 0,T9 1,T9 2,T9 4,T9 5,T9 6,T9 9,T9 10,T9 11,T9 12,T9 13,F9 3,F9 7,T9 8,F9 14,T9 15,T9 16] [] S ?_;intro w S;(iterate 11 (refine dq S ?_;intro a S));refine dl ?_;refine sr S (vf x na ha _) ?_;rintro _ act w rfl S;refine de S ?_;refine dl ?_;refine sr S (vf x nb hb _) ?_;rintro _ act w rfl S;refine de S ?_;refine dq S ?_;intro a S;refine dl ?_;refine sr S (hF _) ?_;rintro _ act w rfl S;refine de S ?_;(iterate 2 (refine dq S ?_;intro a S));refine dn (aQ (kT ?_));refine aD S (fun _=>rfl)
theorem mh (a b c:Nat)(x:Int)(ha:a≤32)(hb:b≤32)(w0:World):aT prog 276 [.agg ⟨[.int .i64 (a:Int),.int .i64 (b:Int),.int .i64 (c:Int),.func (.func 273) #[] #[]]⟩,.int .u32 x] w0 (fun _=>False) fun v _=>v=.int .u32 (rY nY a b c x):=N8 273 nY a b c x ha hb (fun w=>IJ x c w) w0
theorem xB (a b c:Nat)(x:Int)(ha:a≤32)(hb:b≤32)(hc:c≤32)(w0:World):aT prog 276 [.agg ⟨[.int .i64 (a:Int),.int .i64 (b:Int),.int .i64 (c:Int),.func (.func 274) #[] #[]]⟩,.int .u32 x] w0 (fun _=>False) fun v _=>v=.int .u32 (rY ve a b c x):=N8 274 ve a b c x ha hb (fun w=>vf x c hc w) w0
def F_:List Int:=[1779033703,3144134277,1013904242,2773480762,1359893119,2600822924,528734635,1541459225]
def tg:List Int:=[0x428a2f98,0x71374491,0xb5c0fbcf,0xe9b5dba5,0x3956c25b,0x59f111f1,
 0x923f82a4,0xab1c5ed5,0xd807aa98,0x12835b01,0x243185be,0x550c7dc3,
 0x72be5d74,0x80deb1fe,0x9bdc06a7,0xc19bf174,0xe49b69c1,0xefbe4786,
 0x0fc19dc6,0x240ca1cc,0x2de92c6f,0x4a7484aa,0x5cb0a9dc,0x76f988da,
 0x983e5152,0xa831c66d,0xb00327c8,0xbf597fc7,0xc6e00bf3,0xd5a79147,
 0x06ca6351,0x14292967,0x27b70a85,0x2e1b2138,0x4d2c6dfc,0x53380d13,
 0x650a7354,0x766a0abb,0x81c2c92e,0x92722c85,0xa2bfe8a1,0xa81a664b,
 0xc24b8b70,0xc76c51a3,0xd192e819,0xd6990624,0xf40e3585,0x106aa070,
 0x19a4c116,0x1e376c08,0x2748774c,0x34b0bcb5,0x391c0cb3,0x4ed8aa4a,
 0x5b9cca4f,0x682e6ff3,0x748f82ee,0x78a5636f,0x84c87814,0x8cc70208,
 0x90befffa,0xa4506ceb,0xbef9a3f7,0xc67178f2]
theorem Me (w0:World):aT prog 262 [] w0 (fun _=>False) fun v _=>v=.agg ⟨cH F_⟩:=by
 refine enter func262 rfl rfl (Wd.start w0) (fun a S=>?_);simp only[ntmps262,FG,Nat.reduceSub,rQ,Lj,j6]at S;refine kS (kR ?_);refine sa S ?_;intro b0 a w S;refine Y9 ?_;intro a w S;refine aD S (fun _=>rfl)
theorem A1 (w0:World):aT prog 275 [] w0 (fun _=>False) fun v _=>v=.agg ⟨cH tg⟩:=by
 refine enter func275 rfl rfl (Wd.start w0) (fun a S=>?_);simp only[ntmps275,FG,Nat.reduceSub,rQ,Lj,j6]at S;refine kS (kR ?_);refine sa S ?_;intro b0 a w S;refine Y9 ?_;intro a w S;refine aD S (fun _=>rfl)
theorem za (b1 b2 i t:Nat)(hi:i < 8)(ht:t≤64)(w0:World)(f2:Fx w0 (az b2 3 [.int .i64 (t:Int)])):aT prog 277 [.int .i64 (i:Int),.pointer (some ⟨b1,0,none⟩),.pointer (some ⟨b2,0,none⟩)] w0 (fun _=>False) fun v _=>v=.pointer (some ⟨b1,(i+(64 - t)) % 8,none⟩):=by
 refine E1 func277 rfl ntmps277 (Wd.begin (fs:=[az b2 3 [.int .i64 (t:Int)]]) (by simpa using f2)) ?_;intro a S;refine gM ?_;intro a S;have hK:cx ((i+(64 - t)) % 8) 8:=⟨Nat.mod_lt _ (by omega)⟩;rw[show yC .i64 (IntKind.i64.wrap ((i:Int) - (t:Int))) 7=(((i+(64 - t)) % 8:Nat):Int) from by rw[w6 _,Tj _ ⟨by omega,by omega⟩];omega]at S;refine J5 ?_;intro a S;refine aD S (fun _=>rfl)
set_option maxHeartbeats 4000000
abbrev a32 (x y:Int):Int:=IntKind.u32.wrap (x+y)
def N9 (bs:List UInt8):List Int:=(List.range 16).map fun i=>qd (bs.drop (4*i))
theorem zb (bs:List UInt8):(N9 bs).length=16:=by simp[N9]
def jA (t:Nat)(ws:List Int):List Int:=if t < 16 then ws else
 ws.set (t % 16) (a32 (bG ws (t % 16)) (a32 (a32 (rY nY 17 19 10 (bG ws ((t - 2) % 16))) (bG ws ((t - 7) % 16))) (rY nY 7 18 3 (bG ws ((t - 15) % 16)))))
abbrev iV (t i:Nat):Nat:=(i+(64 - t)) % 8
def IK (t:Nat)(K W:Int)(r:List Int):Int:=
 a32 (a32 (a32 (a32 (bG r (iV t 7)) (rY ve 6 11 25 (bG r (iV t 4)))) (FI .u32 (bG r (iV t 6)) (yC .u32 (bG r (iV t 4)) (FI .u32 (bG r (iV t 5)) (bG r (iV t 6)))))) K) W
def sW (t:Nat)(K W:Int)(r:List Int):List Int:=r.set (iV t 3) (a32 (bG r (iV t 3)) (IK t K W r))
def Ga (t:Nat)(K W:Int)(r:List Int):List Int:=
 (sW t K W r).set (iV t 7) (a32 (a32 (IK t K W r) (rY ve 2 13 22 (bG r (iV t 0)))) (Sg .u32 (yC .u32 (bG r (iV t 0)) (bG r (iV t 2))) (yC .u32 (bG (sW t K W r) (iV t 1)) (Sg .u32 (bG r (iV t 0)) (bG r (iV t 2))))))
def rounds (bs:List UInt8)(h:List Int):Nat→List Int × List Int
 | 0=>(N9 bs,h)
 | t+1=>let (ws,r):=rounds bs h t;let ws':=jA t ws;(ws',Ga t (bG tg t) (bG ws' (t % 16)) r)
def jf (h:List Int)(bs:List UInt8):List Int:=(List.range 8).map fun i=>a32 (bG h i) (bG (rounds bs h 64).2 i)
theorem xC (t:Nat)(ws:List Int):(jA t ws).length=ws.length:=by unfold jA;split <;> simp
theorem IL (t:Nat)(K W:Int)(r:List Int):(Ga t K W r).length=r.length:=by simp[Ga,sW]
theorem vg (bs:List UInt8)(h:List Int)(t:Nat):(rounds bs h t).1.length=16∧(rounds bs h t).2.length=h.length:=by
 induction t with
 | zero=>exact ⟨zb bs,rfl⟩
 | succ t ih=>exact ⟨by rw[rounds];simp only;rw[xC];exact ih.1,by rw[rounds];simp only;rw[IL];exact ih.2⟩
theorem mU (h:List Int)(bs:List UInt8):(jf h bs).length=8:=by simp[jf]
theorem A2 {l t:List Int}{k:Nat}(h:k < l.length)(hl:t.length=l.length)(e:l.take k=t.take k):(l.set k (bG t k)).take (k+1)=t.take (k+1):=by
 rw[List.take_set,List.take_succ_eq_append_getElem h,List.take_succ_eq_append_getElem (by omega),e];have h1:(t.take k).length=k:=by rw[List.length_take];omega
 rw[List.set_append_right _ _ (by omega),h1,Nat.sub_self];have h2:=nP (show k < t.length by omega);rw[List.getElem?_eq_getElem (by omega)]at h2;rw[←Option.some.inj h2];rfl
theorem Mf (bs:List UInt8)(k:Nat)(h:k < 16):bG (N9 bs) k=qd (bs.drop (4*k)):=by
 simp[bG,N9,List.getD_eq_getElem?_getD,h]
theorem IM {w:World}{b:Nat}{T:TypeId}{xs:List UInt8}(h:w.heap[b]? = some (.cells (aa xs).toArray T (0,0))):av (some ⟨b,0,none⟩) xs w:=
 ⟨⟨nofun,fun ad had j u hj=>by
  obtain rfl:=Option.some.inj had;rw[add_lit,cell_of_row w b j _ T (0,0) h];simpa using hj⟩,fun _ _=>trivial⟩
theorem A4 {w:World}{p:Option Addr}{xs:List UInt8}(h:av p xs w):Fx w (av p xs):=fun w' bP=>⟨h.1.aO (fun _ _ h=>h) w' bP,fun _ _=>trivial⟩
theorem aT.A5 {P:Program}{f:Nat}{args:List Value}{w:World}{M:Nat→Prop}{R:Value→World→Prop}(h:aT P f args w M R):aT P f args w M (fun v w'=>R v w'∧aJ M w w'):=
 Calls.mono h fun _ _ ⟨v,e,ha,hv⟩=>⟨v,e,ha,hv,ha⟩
theorem St.C7 {w0:World}{M0:Nat→Prop}{ds:List Deferred}{a:Act}{w:World}{l:List Value}{x:Wk.Item}{bs:List Wk.Item}{fs:List (World→Prop)}{n:Nat}{Φ:World→Prop}{B:Nat→Prop}(S:St w0 M0 ds a w l (x::bs) fs)(hold:∀ k,dR bs k→k < n)(h:ag (fun k=>k < n∨B k) w Φ)(hB:∀ k,x.aj k→B k:=by exact fun _ h=>h):St w0 M0 ds a w l (x::bs) (Φ::fs):=
 S.add (h.less fun k _ ⟨it,hi,hk⟩=>by
  rcases List.mem_cons.1 hi with rfl | hi
  exact .inr (hB k hk);exact .inl (hold k ⟨it,hi,hk⟩))
theorem Mg (h:List Int)(iB:bF)(hh:h.length=8)(w0:World):aT prog 264 [.agg ⟨cH h⟩,iy iB] w0 (fun _=>False) fun v _=>v=.agg ⟨cH (jf h iB.l)⟩:=by
 have hN8:eu h 8:=⟨hh⟩;have wH:=iB.h;refine E1 func264 rfl ntmps264 (Wd.start w0) ?_;intro a S;refine kS (kR ?_);refine sa S ?_;clear S;intro b2 a w S;refine sa S ?_;clear S;intro b3 a w S;refine sa S ?_;clear S;intro b4 a w S;refine J6 ?_;clear S;intro a S;refine sa S ?_;clear S;intro b5 a w S;refine sa S ?_;clear S;intro b6 a w S;refine Y8 ?_;clear S;intro a w S;refine sa S ?_;clear S;intro b7 a w S;refine sa S ?_;clear S;intro b8 a w S;refine Y6 ?_;clear S;intro a w S;refine sa S ?_;clear S;intro b9 a w S;refine kN (aQ (kS ?_));rw[show ([.int .u32 0,.int .u32 0,.int .u32 0,.int .u32 0,.int .u32 0,.int .u32 0,.int .u32 0,.int .u32 0,.int .u32 0,.int .u32 0,.int .u32 0,.int .u32 0,.int .u32 0,.int .u32 0,.int .u32 0,.int .u32 0]:List Value)=cH (List.replicate 16 0) from rfl]at S;rw[show ([.int .u32 0,.int .u32 0,.int .u32 0,.int .u32 0,.int .u32 0,.int .u32 0,.int .u32 0,.int .u32 0]:List Value)=cH (List.replicate 8 0) from rfl]at S;refine J2 ?_;clear S;intro a S;have hold:=a_ S;refine td S (y_ iB.l (some ⟨b3,0,none⟩) 64 64 _ iB.h (by omega) (A4 (IM (S.box b3)))) ?_;clear S;rintro _ a w hsz ⟨br,q,e,rfl,pL,hrd,Cr,hq⟩ hS -;have S:=hS (Wk.box br 238 [.slice q iB.l.length e,.int .i64 0]) hrd (fun k hk=>by rw[show k=br from hk];exact pL);clear hS;replace S:=St.C7 S hold hq;refine mJ ?_;clear S;intro a S;refine dI S (fun(k:Nat) (ws:List Int) (p:Option Addr) (c:Nat) uu=>[(11,uu 11),(17,.int .i64 (k:Nat)),(0,uu 30),(0,uu 31),(0,uu 32),(0,uu 33),(0,uu 34),(0,uu 35),(0,uu 36)]) (fun(k:Nat) (ws:List Int) (p:Option Addr) (c:Nat)=>[Wk.box br 238 [.slice p (iB.l.drop (4*k)).length c,.int .i64 0],Wk.box b9 322 (cH ws),Wk.box b8 321 [.int .i64 6,.int .i64 11,.int .i64 25,.func (.func 274) #[] #[]],Wk.box b7 321 [.int .i64 2,.int .i64 13,.int .i64 22,.func (.func 274) #[] #[]],Wk.box b6 321 [.int .i64 17,.int .i64 19,.int .i64 10,.func (.func 273) #[] #[]],Wk.box b5 321 [.int .i64 7,.int .i64 18,.int .i64 3,.func (.func 273) #[] #[]],Wk.box b4 313 (cH (List.replicate 8 0)),Wk.box b3 128 (aa iB.l),Wk.box b2 313 (cH h)]) (fun(k:Nat) (ws:List Int) (p:Option Addr) (c:Nat)=>[av p (iB.l.drop (4*k))]) (fun(k:Nat) (ws:List Int) (p:Option Addr) (c:Nat)=>k≤16∧ws.length=16∧ws.take k=(N9 iB.l).take k∧(iB.l.drop (4*k)).length≤c) (fun(k:Nat) (ws:List Int) (p:Option Addr) (c:Nat)=>16 - k) (0) (List.replicate 16 0) (q) (e) ?_ S.uu ?_ ?_
 ·exact ⟨by omega,by simp,rfl,Cr⟩
 ·exact S
 ·clear S;rintro k ws p c uu a w ⟨hk,hwl,Yy,hkc⟩ S
  refine J6 ?_;clear S;intro a S;refine kC S (fun h6=>?_) (fun h6=>?_)
  ·refine kK (aQ (kS (kB (kS ?_))))
   have IN:k < 16:=by simp at h6;omega
   have hK:cx k 16:=⟨IN⟩;have Cq:cx k ws.length:=⟨by omega⟩;have Tp:(iB.l.drop (4*k)).length=64 - 4*k:=by rw[List.length_drop,wH]
   have hdd:(iB.l.drop (4*k)).length - 4=(iB.l.drop (4*(k+1))).length:=by rw[List.length_drop,List.length_drop];omega
   refine J8 ?_;clear S;intro a S;have hf:=S.gl p (xs:=iB.l.drop (4*k));refine cM (Wk.box br 238 [.slice p (iB.l.drop (4*k)).length c,.int .i64 0]) S (II br (iB.l.drop (4*k)) p c _ (by omega) hkc (by omega) (S.box br) (S.bU (Wk.box br 238 [.slice p (iB.l.drop (4*k)).length c,.int .i64 0]) (S.mem.fact (av p (iB.l.drop (4*k)))))) rfl ?_;clear S;rintro _ a w ⟨rfl,ju⟩ hS;have S:=hS (Wk.box br 238 [.slice (if c=4 then p else p.map (·.add (4*1))) ((iB.l.drop (4*k)).length - 4) (c - 4),.int .i64 0]) ju (fun k h=>.inl h);clear hS;replace S:=S.add (Φ:=av (if c=4 then p else p.map (·.add (4*1))) ((iB.l.drop (4*k)).drop 4)) ((S.mem.fact (av p (iB.l.drop (4*k)))).imp fun _ h=>h.drop 4 hkc);rw[hdd,List.drop_drop,show 4*k+4=4*(k+1) from by omega]at S;refine NJ ?_;clear S;intro a w S;rw[w6 ((k:Int)+1)]at S;rw[←Mf iB.l k IN]at S;exact ⟨k+1,ws.set k (bG (N9 iB.l) k),(if c=4 then p else p.map (·.add (4*1))),c - 4,S.uu,⟨IN,by rw[List.length_set];exact hwl,A2 (by omega) (by rw[zb,hwl]) Yy,by omega⟩,S.sub _ _,by omega⟩
  ·refine kE (fT (fT (mM (aQ (kS ?_)))))
   have IN:k=16:=by simp at h6;omega
   have Tq:ws=N9 iB.l:=by
    subst IN;rw[List.take_of_length_le (by omega),List.take_of_length_le (by rw[zb];exact Nat.le_refl _)]at Yy;exact Yy
   have Mh:eu (List.replicate 8 (0:Int)) 8:=⟨by simp⟩;refine J2 ?_;clear S;intro a S;refine sa S ?_;clear S;intro wL a w S;rw[show ([.int .u32 0,.int .u32 0,.int .u32 0,.int .u32 0,.int .u32 0,.int .u32 0,.int .u32 0,.int .u32 0]:List Value)=cH (List.replicate 8 0) from rfl]at S;refine Y6 ?_;clear S;intro a w S;refine sr S (A1 _) ?_;clear S;rintro _ a w rfl S;refine J4 ?_;clear S;intro a S;refine Ey S (fun(t:Nat) (ws:List Int) (row:List Int) uu=>[(13,uu 13),(0,uu 14),(0,uu 15),(0,uu 16),(0,uu 17),(0,uu 18),(0,uu 19),(0,uu 20),(0,uu 21),(17,.int .i64 (t:Nat)),(0,uu 40),(0,uu 41),(0,uu 42),(0,uu 43),(0,uu 44),(0,uu 45),(0,uu 46),(0,uu 47),(0,uu 48),(0,uu 49),(0,uu 50),(0,uu 51),(0,uu 52),(0,uu 53),(0,uu 54),(0,uu 55),(0,uu 56),(0,uu 57),(0,uu 58),(0,uu 59),(0,uu 60),(0,uu 61),(0,uu 62),(0,uu 63),(0,uu 64),(0,uu 65),(0,uu 66),(0,uu 67),(0,uu 68),(0,uu 69),(0,uu 70),(0,uu 71),(0,uu 72),(0,uu 73),(0,uu 74),(0,uu 75),(0,uu 76),(0,uu 77),(0,uu 78),(0,uu 79),(0,uu 80),(0,uu 81),(0,uu 82),(0,uu 83),(0,uu 84),(0,uu 85),(0,uu 86),(0,uu 87),(0,uu 88),(0,uu 89),(0,uu 90),(0,uu 91),(0,uu 92),(0,uu 93),(0,uu 94),(0,uu 95),(0,uu 96),(0,uu 97),(0,uu 98),(0,uu 99),(0,uu 100),(0,uu 101),(0,uu 102),(0,uu 103),(0,uu 104),(0,uu 105),(0,uu 106),(0,uu 107),(0,uu 108),(0,uu 109),(0,uu 110),(0,uu 111),(0,uu 112),(0,uu 113),(0,uu 114),(0,uu 115),(0,uu 116),(0,uu 117),(0,uu 118),(0,uu 119),(0,uu 120),(0,uu 121),(0,uu 122),(0,uu 123),(0,uu 124),(0,uu 125),(0,uu 126),(0,uu 127),(0,uu 128),(0,uu 129),(0,uu 130),(0,uu 131),(0,uu 132),(0,uu 133),(0,uu 134),(0,uu 135),(0,uu 136),(0,uu 137),(0,uu 138),(0,uu 139),(0,uu 140),(0,uu 141),(0,uu 142),(0,uu 143),(0,uu 144)]) (fun(t:Nat) (ws:List Int) (row:List Int)=>[Wk.box wL 313 (cH row),Wk.box b9 322 (cH ws),Wk.box b8 321 [.int .i64 6,.int .i64 11,.int .i64 25,.func (.func 274) #[] #[]],Wk.box b7 321 [.int .i64 2,.int .i64 13,.int .i64 22,.func (.func 274) #[] #[]],Wk.box b6 321 [.int .i64 17,.int .i64 19,.int .i64 10,.func (.func 273) #[] #[]],Wk.box b5 321 [.int .i64 7,.int .i64 18,.int .i64 3,.func (.func 273) #[] #[]],Wk.box b4 313 (cH (List.replicate 8 0)),Wk.box b2 313 (cH h)]) (fun(t:Nat) (ws:List Int) (row:List Int)=>[]) (fun(t:Nat) (ws:List Int) (row:List Int)=>t≤64∧rounds iB.l h t=(ws,row)) (fun(t:Nat) (ws:List Int) (row:List Int)=>64 - t) (0) (ws) (h) ?_ S.uu ?_ ?_
   ·exact ⟨by omega,by rw[Tq];rfl⟩
   ·first | exact S | exact S.sub _ _
   ·clear S;rintro t ws row uu a w ⟨ht,Ry⟩ S
    refine J6 ?_;clear S;intro a S;refine kC S (fun h12=>?_) (fun h12=>?_)
    ·refine kK (aQ (kS (kB (kS ?_))))
     have PK:t < 64:=by simp at h12;omega
     have hlen:=vg iB.l h t;rw[Ry]at hlen;have hwl2:ws.length=16:=hlen.1;have hrl:row.length=8:=hlen.2.trans hh;have hKt:cx t tg.length:=⟨PK⟩;have hLK:eu tg 64:=⟨rfl⟩;have hK16:cx (t % 16) 16:=⟨Nat.mod_lt _ (by omega)⟩;have hKw:cx (t % 16) ws.length:=⟨by omega⟩;have hp:∀ i,iV t i < 8:=fun i=>Nat.mod_lt _ (by omega)
     have Yj:cx (iV t 0) row.length:=⟨by rw[hrl];exact hp 0⟩;have SQ:cx (iV t 1) row.length:=⟨by rw[hrl];exact hp 1⟩;have Cq:cx (iV t 2) row.length:=⟨by rw[hrl];exact hp 2⟩;have hK3:cx (iV t 3) row.length:=⟨by rw[hrl];exact hp 3⟩;have hK4:cx (iV t 4) row.length:=⟨by rw[hrl];exact hp 4⟩;have hK5:cx (iV t 5) row.length:=⟨by rw[hrl];exact hp 5⟩;have hK6:cx (iV t 6) row.length:=⟨by rw[hrl];exact hp 6⟩;have hK7:cx (iV t 7) row.length:=⟨by rw[hrl];exact hp 7⟩;refine J3 ?_;clear S;intro a S;refine sa S ?_;clear S;intro kX a w S;refine Y8 ?_;clear S;intro a w S;rw[show (t:Int).tmod 16=((t % 16:Nat):Int) from by rw[Int.tmod_eq_emod_of_nonneg (by omega)];omega]at S;refine J4 ?_;clear S;intro a S;refine qH S (fun(Cs:List Int) uu=>[(46,uu 46),(0,uu 47),(0,uu 48),(0,uu 49),(0,uu 50),(0,uu 51),(0,uu 52),(0,uu 53),(0,uu 54),(0,uu 55),(0,uu 56),(0,uu 57),(0,uu 58),(0,uu 59),(0,uu 60),(0,uu 61),(0,uu 62),(0,uu 63),(0,uu 64),(0,uu 65),(0,uu 66),(0,uu 67),(0,uu 68),(0,uu 69),(0,uu 70),(0,uu 71),(0,uu 72),(0,uu 73)]) (fun(Cs:List Int)=>[Wk.box kX 3 [.int .i64 (t:Int)],Wk.box wL 313 (cH row),Wk.box b9 322 (cH Cs),Wk.box b8 321 [.int .i64 6,.int .i64 11,.int .i64 25,.func (.func 274) #[] #[]],Wk.box b7 321 [.int .i64 2,.int .i64 13,.int .i64 22,.func (.func 274) #[] #[]],Wk.box b6 321 [.int .i64 17,.int .i64 19,.int .i64 10,.func (.func 273) #[] #[]],Wk.box b5 321 [.int .i64 7,.int .i64 18,.int .i64 3,.func (.func 273) #[] #[]],Wk.box b4 313 (cH (List.replicate 8 0)),Wk.box b2 313 (cH h)]) (fun(Cs:List Int)=>[]) (fun(Cs:List Int)=>Cs=jA t ws) ?_ ?_
     ·refine J6 ?_;clear S;intro a S
      refine kC S (fun w_=>?_) (fun w_=>?_)
      ·have Ts:16≤t:=by simp at w_;omega
       have hKa:cx ((t - 2) % 16) 16:=⟨Nat.mod_lt _ (by omega)⟩;have hKa2:cx ((t - 2) % 16) ws.length:=⟨by omega⟩;have hKb:cx ((t - 7) % 16) 16:=⟨Nat.mod_lt _ (by omega)⟩;have hKb2:cx ((t - 7) % 16) ws.length:=⟨by omega⟩;have hKc:cx ((t - 15) % 16) 16:=⟨Nat.mod_lt _ (by omega)⟩;have hKc2:cx ((t - 15) % 16) ws.length:=⟨by omega⟩;have hna:VU ((t - 2) % 16) (t % 16):=⟨by omega⟩;have hnb:VU ((t - 7) % 16) (t % 16):=⟨by omega⟩;have hnc:VU ((t - 15) % 16) (t % 16):=⟨by omega⟩;have hx:=S.box b9;have hlt9:b9 < w.heap.size:=(Array.getElem?_eq_some_iff.1 hx).1;replace S:=S.Th b9 322 ws (t % 16) inferInstance;refine Ih (.q 0 (.q 1 (.q 3 (.q 4 (.q 5 (.q 6 (.q 7 (.q 8 (.q 10 (.q 11 (.q 12 (.q 13 (.q 14 (.q 16 (.q 17 (.q 18 (.q 19 (.q 20 (.q 21 (.b2 2 9 (.l 9 (.q 15 (.l 22 (.q 23 (.q 24 (.q 25 (.l 26 (.e)))))))) (.q 15 (.b2 2 22 (.l 22 (.q 23 (.q 24 (.q 25 (.l 26 (.e)))))) (.q 23 (.l 2 (.q 24 (.q 25 (.l 26 (.e)))))))))))))))))))))))))))) S (fun  uu=>[(48,uu 48),(0,uu 49),(0,uu 50),(0,uu 51),(0,uu 52),(0,uu 53),(0,uu 54),(0,uu 55),(0,uu 56),(0,uu 57),(0,uu 58),(0,uu 59),(0,uu 60),(0,uu 61),(0,uu 62),(0,uu 63),(0,uu 64),(0,uu 65),(0,uu 66),(0,uu 67),(0,uu 68),(0,uu 69),(0,uu 70),(0,uu 71),(0,uu 72),(0,uu 73)]) [Wk.box kX 3 [.int .i64 (t:Int)],Wk.box wL 313 (cH row),F1 b9 322 ws (t % 16),Wk.box b8 321 [.int .i64 6,.int .i64 11,.int .i64 25,.func (.func 274) #[] #[]],Wk.box b7 321 [.int .i64 2,.int .i64 13,.int .i64 22,.func (.func 274) #[] #[]],Wk.box b6 321 [.int .i64 17,.int .i64 19,.int .i64 10,.func (.func 273) #[] #[]],Wk.box b5 321 [.int .i64 7,.int .i64 18,.int .i64 3,.func (.func 273) #[] #[]],Wk.box b4 313 (cH (List.replicate 8 0)),Wk.box b2 313 (cH h)] ([Wk.box kX 3 [.int .i64 (t:Int)],Wk.box wL 313 (cH row),Wk.box b9 322 (cH (jA t ws)),Wk.box b8 321 [.int .i64 6,.int .i64 11,.int .i64 25,.func (.func 274) #[] #[]],Wk.box b7 321 [.int .i64 2,.int .i64 13,.int .i64 22,.func (.func 274) #[] #[]],Wk.box b6 321 [.int .i64 17,.int .i64 19,.int .i64 10,.func (.func 273) #[] #[]],Wk.box b5 321 [.int .i64 7,.int .i64 18,.int .i64 3,.func (.func 273) #[] #[]],Wk.box b4 313 (cH (List.replicate 8 0)),Wk.box b2 313 (cH h)]) ([]) (True) ?_ ?_
       ·intro w Tt S
        replace hx:w.heap[b9]? = some (.cells (cH ws).toArray 322 (0,0)):=by rw[Tt];exact hx
        (iterate 5 (refine tq S ?_;clear S;intro a S));rw[show IntKind.i64.wrap ((t:Int) - 2)=((t - 2:Nat):Int) from by rw[w6 _];omega]at S;refine tq S ?_;clear S;intro a S;rw[show ((t - 2:Nat):Int).tmod 16=(((t - 2) % 16:Nat):Int) from by rw[Int.tmod_eq_emod_of_nonneg (by omega)];omega]at S;(iterate 4 (refine tq S ?_;clear S;intro a S));rw[show IntKind.i64.wrap ((t:Int) - 7)=((t - 7:Nat):Int) from by rw[w6 _];omega]at S;refine tq S ?_;clear S;intro a S;rw[show ((t - 7:Nat):Int).tmod 16=(((t - 7) % 16:Nat):Int) from by rw[Int.tmod_eq_emod_of_nonneg (by omega)];omega]at S;(iterate 5 (refine tq S ?_;clear S;intro a S));rw[show IntKind.i64.wrap ((t:Int) - 15)=((t - 15:Nat):Int) from by rw[w6 _];omega]at S;refine tq S ?_;clear S;intro a S;rw[show ((t - 15:Nat):Int).tmod 16=(((t - 15) % 16:Nat):Int) from by rw[Int.tmod_eq_emod_of_nonneg (by omega)];omega]at S;(iterate 2 (refine tq S ?_;clear S;intro a S));refine Hp ?_ ?_
        ·refine Vv (.int .u32 (bG ws (t % 16))) S (by rw[cell_of_row _ b9 (t % 16) _ 322 (0,0) hx];simpa using kM (l:=ws) (k:=t % 16) (by omega)) ?_;clear S;intro a S
         refine te S ?_;refine tl ?_;refine sr S (aT.A5 (mh 17 19 10 (bG ws ((t - 2) % 16)) (by omega) (by omega) _)) ?_;clear S;rintro _ a w ⟨rfl,iR⟩ S;replace hx:=(iR.iB (Array.getElem?_eq_some_iff.1 hx).1 (fun h=>h)).trans hx;clear iR;refine te S ?_;refine tq S ?_;clear S;intro a S;refine tl ?_;refine sr S (aT.A5 (mh 7 18 3 (bG ws ((t - 15) % 16)) (by omega) (by omega) _)) ?_;clear S;rintro _ a w ⟨rfl,iR⟩ S;replace hx:=(iR.iB (Array.getElem?_eq_some_iff.1 hx).1 (fun h=>h)).trans hx;clear iR;refine te S ?_;(iterate 3 (refine tq S ?_;clear S;intro a S));refine tl ?_;refine Yr b9 322 ws (t % 16) S (by omega) hx ?_;clear S hx;intro a w hx S;refine te S ?_;refine tn ?_;have e:jA t ws=ws.set (t % 16) (a32 (bG ws (t % 16)) (a32 (a32 (rY nY 17 19 10 (bG ws ((t - 2) % 16))) (bG ws ((t - 7) % 16))) (rY nY 7 18 3 (bG ws ((t - 15) % 16))))):=by rw[jA,if_neg (by omega)]
         replace S:=S.Ig b9 322 ws (jA t ws) (t % 16) (by rw[e];exact hx);exact ⟨S.uu,trivial,S.sub _ _⟩
        ·refine sr S (aT.A5 (mh 17 19 10 (bG ws ((t - 2) % 16)) (by omega) (by omega) _)) ?_;clear S;rintro _ a w ⟨rfl,iR⟩ S
         replace hx:=(iR.iB (Array.getElem?_eq_some_iff.1 hx).1 (fun h=>h)).trans hx;clear iR;refine te S ?_;refine tq S ?_;clear S;intro a S;refine Hp ?_ ?_
         ·refine Vv (.int .u32 (bG ws (t % 16))) S (by rw[cell_of_row _ b9 (t % 16) _ 322 (0,0) hx];simpa using kM (l:=ws) (k:=t % 16) (by omega)) ?_;clear S;intro a S
          refine te S ?_;refine tl ?_;refine sr S (aT.A5 (mh 7 18 3 (bG ws ((t - 15) % 16)) (by omega) (by omega) _)) ?_;clear S;rintro _ a w ⟨rfl,iR⟩ S;replace hx:=(iR.iB (Array.getElem?_eq_some_iff.1 hx).1 (fun h=>h)).trans hx;clear iR;refine te S ?_;(iterate 3 (refine tq S ?_;clear S;intro a S));refine tl ?_;refine Yr b9 322 ws (t % 16) S (by omega) hx ?_;clear S hx;intro a w hx S;refine te S ?_;refine tn ?_;have e:jA t ws=ws.set (t % 16) (a32 (bG ws (t % 16)) (a32 (a32 (rY nY 17 19 10 (bG ws ((t - 2) % 16))) (bG ws ((t - 7) % 16))) (rY nY 7 18 3 (bG ws ((t - 15) % 16))))):=by rw[jA,if_neg (by omega)]
          replace S:=S.Ig b9 322 ws (jA t ws) (t % 16) (by rw[e];exact hx);exact ⟨S.uu,trivial,S.sub _ _⟩
         ·refine sr S (aT.A5 (mh 7 18 3 (bG ws ((t - 15) % 16)) (by omega) (by omega) _)) ?_;clear S;rintro _ a w ⟨rfl,iR⟩ S
          replace hx:=(iR.iB (Array.getElem?_eq_some_iff.1 hx).1 (fun h=>h)).trans hx;clear iR;refine te S ?_;refine tq S ?_;clear S;intro a S;refine tl ?_;refine Vv (.int .u32 (bG ws (t % 16))) S (by rw[cell_of_row _ b9 (t % 16) _ 322 (0,0) hx];simpa using kM (l:=ws) (k:=t % 16) (by omega)) ?_;clear S;intro a S;refine te S ?_;(iterate 2 (refine tq S ?_;clear S;intro a S));refine tl ?_;refine Yr b9 322 ws (t % 16) S (by omega) hx ?_;clear S hx;intro a w hx S;refine te S ?_;refine tn ?_;have e:jA t ws=ws.set (t % 16) (a32 (bG ws (t % 16)) (a32 (a32 (rY nY 17 19 10 (bG ws ((t - 2) % 16))) (bG ws ((t - 7) % 16))) (rY nY 7 18 3 (bG ws ((t - 15) % 16))))):=by rw[jA,if_neg (by omega)]
          replace S:=S.Ig b9 322 ws (jA t ws) (t % 16) (by rw[e];exact hx);exact ⟨S.uu,trivial,S.sub _ _⟩
       clear S;rintro  uu a w - S;refine aQ ?_;exact ⟨jA t ws,S.uu,rfl,S.sub _ _⟩
      ·refine kK (aQ ?_)
       have Ts:t < 16:=by simp at w_;omega
       have e:jA t ws=ws:=by rw[jA,if_pos Ts]
       exact ⟨ws,S.uu,e.symm,S.sub _ _⟩
     ·clear S;rintro Cs uu a w Tu S;refine kS ?_
      have hKw1:cx (t % 16) Cs.length:=⟨by rw[Tu,xC];omega⟩;refine J6 ?_;clear S;intro a S;refine bM [T9 0,T9 4,T9 8,T9 12,F9 1,T9 2,T9 3,F9 5,T9 6,T9 7,F9 9,T9 10,T9 11,F9 13,T9 14,T9 15,T9 16,T9 17,T9 18,T9 19] [] S ?_;clear S;intro w S;(iterate 4 (refine dq S ?_;clear S;intro a S));refine dl ?_;refine sr S (za wL kX 0 t (by omega) ht _ (az.aO (S.ir kX) (fun h=>h))) ?_;clear S;rintro _ a w rfl S;refine de S ?_;(iterate 2 (refine dq S ?_;clear S;intro a S));refine dl ?_;refine sr S (za wL kX 2 t (by omega) ht _ (az.aO (S.ir kX) (fun h=>h))) ?_;clear S;rintro _ a w rfl S;refine de S ?_;(iterate 2 (refine dq S ?_;clear S;intro a S));refine dl ?_;refine sr S (za wL kX 4 t (by omega) ht _ (az.aO (S.ir kX) (fun h=>h))) ?_;clear S;rintro _ a w rfl S;refine de S ?_;(iterate 2 (refine dq S ?_;clear S;intro a S));refine dl ?_;refine sr S (za wL kX 6 t (by omega) ht _ (az.aO (S.ir kX) (fun h=>h))) ?_;clear S;rintro _ a w rfl S;refine de S ?_;(iterate 6 (refine dq S ?_;clear S;intro a S));refine dn (aQ (kS ?_));refine bM [T9 0,T9 4,T9 5,T9 8,T9 9,T9 10,T9 14,T9 19,T9 21,T9 22,T9 23,F9 1,T9 2,T9 3,F9 6,T9 7,F9 11,T9 12,T9 13,T9 15,T9 16,T9 17,T9 18,T9 20,T9 24,T9 25] [] S ?_;clear S;intro w S;(iterate 11 (refine dq S ?_;clear S;intro a S));refine dl ?_
      refine sr S (za wL kX 7 t (by omega) ht _ (az.aO (S.ir kX) (fun h=>h))) ?_;clear S;rintro _ a w rfl S;refine de S ?_;(iterate 2 (refine dq S ?_;clear S;intro a S));refine dl ?_;refine sr S (xB 6 11 25 _ (by omega) (by omega) (by omega) _) ?_;clear S;rintro _ a w rfl S;refine de S ?_;refine dq S ?_;clear S;intro a S;refine dl ?_;refine sr S (za wL kX 5 t (by omega) ht _ (az.aO (S.ir kX) (fun h=>h))) ?_;clear S;rintro _ a w rfl S;refine de S ?_;(iterate 9 (refine dq S ?_;clear S;intro a S));refine dn (aQ (kS ?_));have e:=Eq.refl (IK t (bG tg t) (bG Cs (t % 16)) row)
      conv at e=>rhs;simp only[IK,a32,iV]
      rw[←e]at S;clear e;refine J2 ?_;clear S;intro a S;refine sr S (za wL kX 3 t (by omega) ht _ (az.aO (S.ir kX) (fun h=>h))) ?_;clear S;rintro _ a w rfl S;refine Y6 ?_;clear S;intro a w S;rw[show row.set ((3+(64 - t)) % 8) (IntKind.u32.wrap (bG row ((3+(64 - t)) % 8)+IK t (bG tg t) (bG Cs (t % 16)) row))=sW t (bG tg t) (bG Cs (t % 16)) row from rfl]at S;have Av:(sW t (bG tg t) (bG Cs (t % 16)) row).length=8:=by rw[sW,List.length_set,hrl]
      have hK1b:cx (iV t 1) (sW t (bG tg t) (bG Cs (t % 16)) row).length:=⟨by rw[Av];exact hp 1⟩;have hK7b:cx (iV t 7) (sW t (bG tg t) (bG Cs (t % 16)) row).length:=⟨by rw[Av];exact hp 7⟩;refine kN (aQ ?_)
      refine' qF (.q 0 (.q 2 (.q 3 (.q 4 (.q 7 (.q 8 (.q 9 (.q 10 (.q 14 (.q 15 (.q 16 (.l 1 (.l 5 (.q 6 (.l 11 (.q 12 (.l 13 (.q 17 (.q 18 (.q 19 (.q 20 (.l 21 (.e))))))))))))))))))))))) [wL] S ?_ ?_
      rotate_left 3
      ·intro w S
       (iterate 11 (refine tq S ?_;clear S;intro a S));refine tl ?_;refine sr S (za wL kX 7 t (by omega) ht _ (az.aO (S.ir kX) (fun h=>h))) ?_;clear S;rintro _ a w rfl S;refine te S ?_;refine tl ?_;refine sr S (xB 2 13 22 _ (by omega) (by omega) (by omega) _) ?_;clear S;rintro _ a w rfl S;refine te S ?_;refine tq S ?_;clear S;intro a S;refine tl ?_;refine sr S (za wL kX 1 t (by omega) ht _ (az.aO (S.ir kX) (fun h=>h))) ?_;clear S;rintro _ a w rfl S;refine te S ?_;refine tq S ?_;clear S;intro a S;refine tl (sq S ?_);clear S;intro a S;refine te S ?_;(iterate 4 (refine tq S ?_;clear S;intro a S));refine tl (sw S ?_);clear S;intro a w S;refine te S ?_;refine tn ?_;exact S
      intro  a w S;refine J7 ?_;clear S;intro a S;have e:=Eq.refl (Ga t (bG tg t) (bG Cs (t % 16)) row)
      conv at e=>rhs;simp only[Ga,a32,iV]
      rw[←e]at S;clear e;rw[w6 ((t:Int)+1)]at S;refine ⟨t+1,Cs,Ga t (bG tg t) (bG Cs (t % 16)) row,S.uu,⟨by omega,?_⟩,S.sub _ _,by omega⟩;rw[rounds,Ry,Tu]
    ·refine kE (fT (fT (mM (aQ (kS (kS ?_))))))
     have PK:t=64:=by simp at h12;omega
     subst PK;have hlen:=vg iB.l h 64;rw[Ry]at hlen;have hrl:row.length=8:=hlen.2.trans hh;refine J5 ?_;clear S;intro a S;refine iI S (fun(i:Nat) (g:List Int) uu=>[(22,uu 22),(122,.int .i64 (i:Nat)),(0,uu 146),(0,uu 147),(0,uu 148),(0,uu 149),(0,uu 150),(0,uu 151),(0,uu 152),(0,uu 153),(0,uu 154),(0,uu 155),(0,uu 156)]) (fun(i:Nat) (g:List Int)=>[Wk.box wL 313 (cH row),Wk.box b4 313 (cH (List.replicate 8 0)),Wk.box b2 313 (cH g)]) (fun(i:Nat) (g:List Int)=>[]) (fun(i:Nat) (g:List Int)=>i≤8∧g.length=8∧g.take i=(jf h iB.l).take i∧g.drop i=h.drop i) (fun(i:Nat) (g:List Int)=>8 - i) (0) (h) ?_ S.uu ?_ ?_
     ·exact ⟨by omega,hh,rfl,rfl⟩
     ·first | exact S | exact S.sub _ _
     ·clear S;rintro i g uu a w ⟨hi,wK,hgt,hgd⟩ S
      refine J6 ?_;clear S;intro a S;refine kC S (fun PL=>?_) (fun PL=>?_)
      ·refine kK (aQ (kS (kB (kS ?_))))
       have Mi:i < 8:=by simp at PL;omega
       have Yz:cx i 8:=⟨Mi⟩;have YA:cx i g.length:=⟨by omega⟩;have hKi3:cx i row.length:=⟨by omega⟩;have hgi:bG g i=bG h i:=by
        have:=congrArg (fun l=>l[0]?) hgd;simp only[List.getElem?_drop,Nat.add_zero]at this;rw[nP (by omega),nP (by omega)]at this;exact Option.some.inj this
       have hbi:bG (jf h iB.l) i=a32 (bG h i) (bG row i):=by
        have:(rounds iB.l h 64).2=row:=by rw[Ry]
        rw[←this];simp[bG,jf,List.getD_eq_getElem?_getD,Mi]
       refine J5 ?_;clear S;intro a S
       refine' qF (.q 0 (.q 1 (.q 3 (.q 4 (.q 5 (.l 2 (.q 6 (.q 7 (.l 8 (.e)))))))))) [b2] S ?_ ?_
       rotate_left 3
       ·intro w S
        (iterate 5 (refine tq S ?_;clear S;intro a S));refine tl (sq S ?_);clear S;intro a S;refine te S ?_;(iterate 2 (refine tq S ?_;clear S;intro a S));refine tl (sw S ?_);clear S;intro a w S;refine te S ?_;refine tn ?_;exact S
       intro  a w S;refine J7 ?_;clear S;intro a S;rw[w6 ((i:Int)+1),hgi,show IntKind.u32.wrap (bG h i+bG row i)=bG (jf h iB.l) i from hbi.symm]at S;refine ⟨i+1,g.set i (bG (jf h iB.l) i),S.uu,⟨by omega,by rw[List.length_set];exact wK,A2 (by omega) (by rw[mU,wK]) hgt,?_⟩,S.sub _ _,by omega⟩;rw[List.drop_set_of_lt (by omega),←List.drop_drop,hgd,List.drop_drop]
      ·refine kE (fT (fT (mM (aQ (kS ?_)))))
       have Mi:i=8:=by simp at PL;omega
       have hg8:eu g 8:=⟨wK⟩;have Mh:eu (List.replicate 8 (0:Int)) 8:=⟨by simp⟩;have YB:g=jf h iB.l:=by
        subst Mi;rw[List.take_of_length_le (by omega),List.take_of_length_le (by rw[mU];exact Nat.le_refl _)]at hgt;exact hgt
       refine Y6 ?_;clear S;intro a w S;refine aD S (fun _=>?_);rw[YB]
def jB (bs:List UInt8):List UInt8:=bs++[128]++List.replicate ((119 - bs.length % 64) % 64) 0++be 8 (8*(bs.length:Int))
theorem A6 (bs:List UInt8):(jB bs).length=bs.length+1+(119 - bs.length % 64) % 64+8:=by
 unfold jB;rw[List.length_append,List.length_append,List.length_append,bI,List.length_replicate];rfl
theorem Tv (bs:List UInt8)(p:Option Addr)(n c:Nat)(w0:World)(hn:bs.length=n)(hl:n≤1000000)(hx:Fx w0 (iE p (aa bs))) :
  aT prog 263 [.slice p n c] w0 (fun _=>False) fun r w'=>∃ g,r=.slice (some ⟨g,0,none⟩) (jB bs).length (jB bs).length∧w0.heap.size≤g∧w'.ownsRow 0 5 1 (.slice (some ⟨g,0,none⟩) (jB bs).length (jB bs).length) (jB bs).length (aa (jB bs)):=by
 have RA:eu bs n:=⟨hn⟩;have hpl:=A6 bs;refine E1 func263 rfl ntmps263 (Wd.begin (fs:=[iE p (aa bs)]) (by simpa using hx)) ?_;intro a S;refine jq ?_;intro a S;rw[w6 ((n:Int)+72)]at S;refine Yu n (n+72) S rfl (by omega) (by omega) (by omega) (by simp only[maxLen];omega) ?_;intro g a w S;refine J7 ?_;intro a S;refine scp S (by omega) ?_;intro a w S;rw[show aa bs++(aa (List.replicate n (0:UInt8))).drop (n*1)=aa bs from by rw[List.drop_of_length_le (by rw[aU,List.length_replicate];exact Nat.le_refl _),List.append_nil]]at S;refine J5 ?_;intro a S;refine sn S ?_;intro N5 a w S;refine gA S (by simp only[maxLen];omega) (by omega) ?_;rintro p3 c3 a w - S;rw[show aa bs++[.int .u8 128]=aa (bs++[128]) from by rw[aC];rfl]at S;refine J9 ?_;intro a S;rw[show (n:Int).tmod 64=((n % 64:Nat):Int) from by rw[Int.tmod_eq_emod_of_nonneg (by omega)];omega]at S;refine J1 ?_;intro a S;rw[show IntKind.i64.wrap (119 - ((n % 64:Nat):Int))=((119 - n % 64:Nat):Int) from by rw[w6 _];omega]at S;refine J1 ?_;intro a S;rw[show ((119 - n % 64:Nat):Int).tmod 64=(((119 - n % 64) % 64:Nat):Int) from by rw[Int.tmod_eq_emod_of_nonneg (by omega)];omega]at S;refine N4 p3 (n+1) (m:=(119 - n % 64) % 64) S (by omega) (by simp only[maxLen];omega) (by omega) ?_;intro p4 c4 a w S;rw[←aC]at S;refine J9 ?_;intro a S;rw[jV (n:Int) (by omega) (by omega)]at S;refine J1 ?_;intro a S;rw[jV (8*(n:Int)) (by omega) (by omega)]at S
 refine jU S (LN p4 (n+1+(119 - n % 64) % 64) c4 (bs++[128]++List.replicate ((119 - n % 64) % 64) 0) (8*(n:Int)) _ (by rw[List.length_append,List.length_append,List.length_replicate,hn];rfl) (by omega) (by omega) (by omega) ((jc (S.row p4 (n+1+(119 - n % 64) % 64))).aO (fun _ _ h=>h))) ?_;rintro _ a w ⟨g2,rfl,Ct,hown⟩ hS -;have S:=hS hown (fun ad h=>by cases h;exact Ct);clear hS;have e1:n+1+(119 - n % 64) % 64+8=(jB bs).length:=by rw[hpl,hn]
 have e2:bs++[128]++List.replicate ((119 - n % 64) % 64) 0++be 8 (8*(n:Int))=jB bs:=by rw[jB,hn]
 rw[e1,e2]at S;refine J4 ?_;intro a S;have hrow:=S.row (some ⟨g2,0,none⟩) (jB bs).length;have hnew:=S.cQ (some ⟨g2,0,none⟩) (jB bs).length;refine aD S (fun _=>?_);exact ⟨g2,rfl,(hnew _ rfl).elim (fun h=>h.elim) id,hrow⟩
def oN:Nat→List Int→List UInt8→List Int
 | 0,h,_=>h
 | k+1,h,xs=>oN k (jf h (xs.take 64)) (xs.drop 64)
def A7 (h:List Int)(k:Nat):List UInt8:=(List.range k).flatMap fun j=>be 4 (bG h j)
theorem vh (h:List Int)(k:Nat):(A7 h k).length=4*k:=by
 induction k with
 | zero=>rfl
 | succ k ih=>rw[A7,List.range_succ,List.flatMap_append,List.length_append];simp only[List.flatMap_cons,List.flatMap_nil,List.append_nil,bI];rw[show ((List.range k).flatMap fun j=>be 4 (bG h j)).length=4*k from ih];omega
theorem Gb (h:List Int)(k:Nat):A7 h (k+1)=A7 h k++be 4 (bG h k):=by
 rw[A7,List.range_succ,List.flatMap_append];simp[A7]
def th (bs:List UInt8):List UInt8:=A7 (oN ((jB bs).length / 64) F_ (jB bs)) 8
theorem vi (bs:List UInt8):(th bs).length=32:=vh _ 8
theorem wrap32 (x:Int):0≤IntKind.u32.wrap x∧IntKind.u32.wrap x≤4294967295:=by
 unfold IntKind.wrap;simp only[IntKind.bits,IntKind.signed];constructor;simp;omega;simp;omega
theorem C8 (h:List Int)(bs:List UInt8):∀ x∈jf h bs,0≤x∧x≤4294967295:=fun x hx=>by
 obtain ⟨i,-,rfl⟩:=List.mem_map.1 hx;exact wrap32 _
theorem Tw (bs:List UInt8)(p:Option Addr)(n c:Nat)(w0:World)(hn:bs.length=n)(hl:n≤1000000)(hx:Fx w0 (iE p (aa bs))) :
  aT prog 240 [.slice p n c] w0 (fun _=>False) fun r _=>r=.agg ⟨aa (th bs)⟩:=by
 have hpl:=A6 bs;have YC:(jB bs).length % 64=0:=by rw[hpl];omega
 have hpm:(jB bs).length≤1000200:=by rw[hpl];omega
 refine E1 func240 rfl ntmps240 (Wd.begin (fs:=[iE p (aa bs)]) (by simpa using hx)) ?_;intro a S;refine kS (kR ?_);refine sa S ?_;intro b2 a w S;refine kN (aQ (kS (kR ?_)));refine sr S (Me _) ?_;rintro _ a w rfl S;have hH8:eu F_ 8:=⟨rfl⟩;have Mh:eu (List.replicate 8 (0:Int)) 8:=⟨by simp⟩;refine sa S ?_;intro b3 a w S;rw[show ([.int .u32 0,.int .u32 0,.int .u32 0,.int .u32 0,.int .u32 0,.int .u32 0,.int .u32 0,.int .u32 0]:List Value)=cH (List.replicate 8 0) from rfl]at S;refine Y7 ?_;intro a w S;refine jU S (Tv bs p n c _ hn hl ((S.fact (Φ:=iE p (aa bs)) (by simp)).less fun _ _ h=>h.elim)) ?_;rintro _ a w ⟨g,rfl,hg,hown⟩ hS -;have S:=hS hown (fun ad h=>by cases h;exact hg);clear hS;replace S:=S.bA (some ⟨g,0,none⟩) (jB bs) (e:=5) (sz:=1) (n:=(jB bs).length) (c:=(jB bs).length) (fun _ _ _ _=>trivial);refine J4 ?_;intro a S;refine dI S (fun(h:List Int) (xs:List UInt8) (q:Option Addr) (e:Nat) uu=>[(4,.slice q xs.length e),(5,uu 10),(0,uu 11),(0,uu 12),(0,uu 13),(0,uu 14),(0,uu 15),(0,uu 16),(0,uu 17),(0,uu 18),(0,uu 19)]) (fun(h:List Int) (xs:List UInt8) (q:Option Addr) (e:Nat)=>[Wk.box b3 313 (cH h),Wk.box b2 296 (aa (List.replicate 32 (0:UInt8)))]) (fun(h:List Int) (xs:List UInt8) (q:Option Addr) (e:Nat)=>[av q xs]) (fun(h:List Int) (xs:List UInt8) (q:Option Addr) (e:Nat)=>h.length=8∧xs.length % 64=0∧xs.length≤e∧(∀ x∈h,0≤x∧x≤4294967295)∧oN (xs.length / 64) h xs=oN ((jB bs).length / 64) F_ (jB bs)) (fun(h:List Int) (xs:List UInt8) (q:Option Addr) (e:Nat)=>xs.length) (F_) (jB bs) (some ⟨g,0,none⟩) ((jB bs).length) ?_ S.uu ?_ ?_
 ·exact ⟨rfl,YC,Nat.le_refl _,by decide,rfl⟩
 ·exact S.sub _ _
 ·clear S;rintro h xs q e uu a w ⟨Tx,hx64,VY,hhu,wH⟩ S
  refine J8 ?_;intro a S;refine kC S (fun h3=>?_) (fun h3=>?_)
  ·refine kK (aQ (kS (kB ?_)))
   have hx0:64≤xs.length:=by have:=of_decide_eq_true h3;omega
   have hN8:eu h 8:=⟨Tx⟩;have YD:eS 64 xs.length:=⟨hx0⟩;have hLe2:eS xs.length e:=⟨VY⟩;have hLe3:eS 64 e:=⟨by omega⟩;obtain ⟨bl,Ty⟩:∃ bl:bF,bl.l=xs.take 64:=⟨⟨xs.take 64,by rw[List.length_take];omega⟩,rfl⟩;obtain ⟨ad,rfl⟩:∃ ad,q=some ad:=by
    cases q with
    | some ad=>exact ⟨ad,rfl⟩
    | none=>
     have h1:=(S.mem.fact (av none xs)).now.1.1 rfl;have h2:=congrArg List.length h1;rw[aU]at h2;have h3:xs.length*1=0:=h2;omega
   have hN8b:eu (jf h (xs.take 64)) 8:=⟨mU _ _⟩;replace S:=S.add (Φ:=Il ad bl) ((S.mem.fact (av (some ad) xs)).imp fun _ h j v hj=>h.1.2 ad rfl j v (by
    rw[Ty,show aa (xs.take 64)=(aa xs).take (64*1) from (lU xs 64).symm,List.getElem?_take]at hj;split at hj
    ·exact hj
    ·cases hj))
   refine' qF (.q 1 (.q 2 (.q 3 (.l 0 (.l 4 (.l 5 (.e))))))) [b3] S ?_ ?_
   rotate_left 3
   ·intro w S
    (iterate 3 (refine tq S ?_;intro a S));refine tl (sq S ?_);intro a S;refine te S ?_;refine tl ?_;refine sr S (Mg h bl Tx _) ?_;rintro _ a w rfl S;rw[Ty]at S;refine te S ?_;refine tl (sw S ?_);intro a w S;refine te S ?_;refine tn ?_;exact S
   intro  a w S;refine J8 ?_;intro a S;replace S:=S.add (Φ:=av (if e=64 then some ad else (some ad).map (·.add (64*1))) (xs.drop 64)) ((S.mem.fact (av (some ad) xs)).imp fun _ h=>h.drop 64 VY);rw[show xs.length - 64=(xs.drop 64).length from List.length_drop.symm]at S;refine ⟨jf h (xs.take 64),xs.drop 64,(if e=64 then some ad else (some ad).map (·.add (64*1))),e - 64,S.uu,⟨mU _ _,by rw[List.length_drop];omega,by rw[List.length_drop];omega,C8 _ _,?_⟩,S.sub _ _,by rw[List.length_drop];omega⟩;rw[←wH,List.length_drop,show xs.length / 64=(xs.length - 64) / 64+1 from by omega,oN]
  ·refine kE (fT (fT (mM (aQ (kS ?_)))))
   have hx0:xs.length=0:=by have:=of_decide_eq_false h3;omega
   have hhf:h=oN ((jB bs).length / 64) F_ (jB bs):=by rw[←wH,hx0];rfl
   have hN8:eu h 8:=⟨Tx⟩;replace S:=S.cP 5 1;refine gM ?_;intro a S;refine dI S (fun(i:Nat) (out:List UInt8) (q2:Option Addr) (e2:Nat) uu=>[(5,.slice q2 out.length e2),(0,uu 6),(13,.int .i64 (i:Nat)),(0,uu 21),(0,uu 22),(0,uu 23),(0,uu 24),(0,uu 25),(0,uu 26),(0,uu 27),(0,uu 28)]) (fun(i:Nat) (out:List UInt8) (q2:Option Addr) (e2:Nat)=>[Wk.row 5 1 q2 out.length e2 (aa out),Wk.box b3 313 (cH h),Wk.box b2 296 (aa (List.replicate 32 (0:UInt8)))]) (fun(i:Nat) (out:List UInt8) (q2:Option Addr) (e2:Nat)=>[]) (fun(i:Nat) (out:List UInt8) (q2:Option Addr) (e2:Nat)=>i≤8∧out=A7 h i) (fun(i:Nat) (out:List UInt8) (q2:Option Addr) (e2:Nat)=>8 - i) (0) ([]) (none) (0) ?_ S.uu ?_ ?_
   ·exact ⟨by omega,rfl⟩
   ·exact S.sub [Wk.row 5 1 none 0 0 [],Wk.box b3 313 (cH h),Wk.box b2 296 (aa (List.replicate 32 (0:UInt8)))] []
   ·clear S;rintro i out q2 e2 uu a w ⟨hi,hout⟩ S
    refine J6 ?_;intro a S;refine kC S (fun h8=>?_) (fun h8=>?_)
    ·refine kK (aQ (kS (kB (kS ?_))))
     have Mi:i < 8:=by simp at h8;omega
     have Yz:cx i 8:=⟨Mi⟩;have YA:cx i h.length:=⟨by omega⟩;have N7:out.length=4*i:=by rw[hout,vh]
     have YE:0≤bG h i∧bG h i≤4294967295:=by
      have h1:=nP (ys:=h) (k:=i) (by omega);exact hhu _ (List.mem_of_getElem? h1)
     refine mJ ?_;intro a S;refine jU S (oH q2 out.length e2 out (bG h i) _ rfl (by omega) YE.1 YE.2 ((jc (S.row q2 out.length)).aO (fun _ _ h=>h))) ?_;rintro _ a w ⟨g2,rfl,Ct,hown⟩ hS -;have S:=hS hown (fun ad h=>by cases h;exact Ct);clear hS;rw[show out.length+4=(out++be 4 (bG h i)).length from by rw[List.length_append,bI]]at S;refine J9 ?_;intro a S;rw[w6 ((i:Int)+1)]at S;exact ⟨i+1,out++be 4 (bG h i),some ⟨g2,0,none⟩,(out++be 4 (bG h i)).length,S.uu,⟨by omega,by rw[Gb,hout]⟩,S.sub _ _,by omega⟩
    ·refine kE (fT (fT (mM (aQ (kS ?_)))))
     have Mi:i=8:=by simp at h8;omega
     have N7:out.length=32:=by rw[hout,Mi,vh]
     have YD:eS 32 out.length:=⟨by omega⟩;have hlen:gW (aa out) 32:=⟨by rw[aU,N7];rfl⟩;have Tz:iC (aa (List.replicate 32 (0:UInt8))) (aa out) (aa out):=⟨by rw[aU,aU,N7];exact Nat.le_refl _,by rw[List.drop_of_length_le (by rw[aU,aU,N7];exact Nat.le_refl _),List.append_nil]⟩;obtain ⟨g3,cur,IP,-⟩:=eB (S.row q2 out.length) (show 0 < out.length by omega);subst IP;refine J3 ?_;intro a S;refine Sh (aa out) S (fun j v hj=>?_) ?_
     ·have:=nN (S.row (some ⟨g3,0,none⟩) out.length) (o:=0) (j:=j) (u:=v) (by rw[Nat.zero_add];exact hj)
      rw[dx,Option.getD_some,add_lit]at this;exact this
     clear S;intro a S;refine Y4 ?_;intro a w S;refine aD S (fun _=>?_);rw[hout,Mi,hhf];rfl
structure C9 where
 name:List UInt8
 term:ak
instance PM:cX C9:=⟨6,fun r=>str r.name::r.term.cells,fun _=>rfl,fun x u hu=>by
 rcases List.mem_cons.1 hu with rfl | hu
 rfl;exact Sn.one x.term u hu⟩
instance YF:dW C9:={ PM with
 dflt:=⟨[],eO⟩
 ny:=fun w r=>f_ w r.term
 mono:=fun _w _w' x h hx=>f_.mono h x.term hx }
def C9.r (x:C9):CT:=⟨x.name,x.term.t⟩
structure AtP (l:List C9)(s:List UInt8)(i:Nat)(b:Bool):Prop where
 le:i≤l.length
 lo:∀ m,m < i→Op.bytesLess (aq l m).name s=true
 hi:∀ m,i≤m→m < l.length→Op.bytesLess (aq l m).name s=false
 there:b=(decide ((i:Int) < (l.length:Int))&&decide ((aq l i).name=s))
end Go.Proofs.YtdakncgafdnjfaaGreat