/- 5: a part of this claim's texts, joined: ShaB ShaC VaultA VaultB VaultC VaultD VaultE VaultF W9 WalA WalB WalC WalD WalE WalF WalG WalH WalI WalJ WalK PlainWal WalLaw WalLawB WalLawC WalLawD WalM. -/
import Derived.Test.YtdakncgafdnjfaaGreatPj4
import Derived.ChangeKeysEq
import Derived.Laws.StructEq
namespace Go.Proofs.YtdakncgafdnjfaaGreat
open Go Go.Wk
set_option synthInstance.maxSize 100000
set_option synthInstance.maxHeartbeats 400000
set_option maxRecDepth 100000
set_option maxHeartbeats 4000000
abbrev a32 (x y:Int):Int:=IntKind.u32.wrap (x+y)
def w16 (bs:List UInt8):List Int:=(List.range 16).map fun i=>u32B (bs.drop (4*i))
theorem w16_len (bs:List UInt8):(w16 bs).length=16:=by simp[w16]
def wordF (t:Nat) (ws:List Int):List Int:=if t < 16 then ws else
 ws.set (t % 16) (a32 (nthI ws (t % 16)) (a32 (a32 (mixF pushF 17 19 10 (nthI ws ((t - 2) % 16))) (nthI ws ((t - 7) % 16))) (mixF pushF 7 18 3 (nthI ws ((t - 15) % 16)))))
abbrev posF (t i:Nat):Nat:=(i+(64 - t)) % 8
def sumF (t:Nat) (K W:Int) (r:List Int):Int:=
 a32 (a32 (a32 (a32 (nthI r (posF t 7)) (mixF turnF 6 11 25 (nthI r (posF t 4)))) (ixor .u32 (nthI r (posF t 6)) (iand .u32 (nthI r (posF t 4)) (ixor .u32 (nthI r (posF t 5)) (nthI r (posF t 6)))))) K) W
def row1F (t:Nat) (K W:Int) (r:List Int):List Int:=r.set (posF t 3) (a32 (nthI r (posF t 3)) (sumF t K W r))
def rowF (t:Nat) (K W:Int) (r:List Int):List Int:=
 (row1F t K W r).set (posF t 7) (a32 (a32 (sumF t K W r) (mixF turnF 2 13 22 (nthI r (posF t 0)))) (ior .u32 (iand .u32 (nthI r (posF t 0)) (nthI r (posF t 2))) (iand .u32 (nthI (row1F t K W r) (posF t 1)) (ior .u32 (nthI r (posF t 0)) (nthI r (posF t 2))))))
def rounds (bs:List UInt8) (h:List Int):Nat→List Int × List Int
 | 0=>(w16 bs,h)
 | t+1=>let (ws,r):=rounds bs h t;let ws':=wordF t ws;(ws',rowF t (nthI shaK t) (nthI ws' (t % 16)) r)
def blockF (h:List Int) (bs:List UInt8):List Int:=(List.range 8).map fun i=>a32 (nthI h i) (nthI (rounds bs h 64).2 i)
theorem wordF_len (t:Nat) (ws:List Int):(wordF t ws).length=ws.length:=by unfold wordF;split <;> simp
theorem rowF_len (t:Nat) (K W:Int) (r:List Int):(rowF t K W r).length=r.length:=by simp[rowF,row1F]
theorem rounds_len (bs:List UInt8) (h:List Int) (t:Nat):(rounds bs h t).1.length=16∧(rounds bs h t).2.length=h.length:=by
 induction t with
 | zero=>exact ⟨w16_len bs,rfl⟩
 | succ t ih=>exact ⟨by rw[rounds];simp only;rw[wordF_len];exact ih.1,by rw[rounds];simp only;rw[rowF_len];exact ih.2⟩
theorem blockF_len (h:List Int) (bs:List UInt8):(blockF h bs).length=8:=by simp[blockF]
theorem set_step {l t:List Int} {k:Nat} (h:k < l.length) (hl:t.length=l.length) (e:l.take k=t.take k):(l.set k (nthI t k)).take (k+1)=t.take (k+1):=by
 rw[List.take_set,List.take_succ_eq_append_getElem h,List.take_succ_eq_append_getElem (by omega),e]
 have h1:(t.take k).length=k:=by rw[List.length_take];omega
 rw[List.set_append_right _ _ (by omega),h1,Nat.sub_self]
 have h2:=nthI_get (show k < t.length by omega)
 rw[List.getElem?_eq_getElem (by omega)]at h2
 rw[←Option.some.inj h2];rfl
theorem w16_get (bs:List UInt8) (k:Nat) (h:k < 16):nthI (w16 bs) k=u32B (bs.drop (4*k)):=by
 simp[nthI,w16,List.getD_eq_getElem?_getD,h]
theorem glBox {w:World} {b:Nat} {T:TypeId} {xs:List UInt8} (h:w.heap[b]? = some (.cells (encL xs).toArray T (0,0))):GlF (some ⟨b,0,none⟩) xs w:=
 ⟨⟨nofun,fun ad had j u hj=>by
  obtain rfl:=Option.some.inj had
  rw[add_lit,cell_of_row w b j _ T (0,0) h]
  simpa using hj⟩,fun _ _=>trivial⟩
theorem glStable {w:World} {p:Option Addr} {xs:List UInt8} (h:GlF p xs w):Stable (fun _=>False) w (GlF p xs):=fun w' hw'=>⟨h.1.stable (fun _ _ h=>h) w' hw',fun _ _=>trivial⟩
theorem Ret.alsoS {P:Program} {f:Nat} {args:List Value} {w:World} {M:Nat→Prop} {R:Value→World→Prop} (h:Ret P f args w M R):Ret P f args w M (fun v w'=>R v w'∧Agree M w w'):=
 Calls.mono h fun _ _ ⟨v,e,ha,hv⟩=>⟨v,e,ha,hv,ha⟩
theorem St.addOld {w0:World} {M0:Nat→Prop} {ds:List Deferred} {a:Act} {w:World} {l:List Value} {x:Wk.Item} {bs:List Wk.Item} {fs:List (World→Prop)} {n:Nat} {Φ:World→Prop} {B:Nat→Prop} (S:St w0 M0 ds a w l (x::bs) fs) (hold:∀ k,foots bs k→k < n) (h:Stable (fun k=>k < n∨B k) w Φ) (hB:∀ k,x.foot k→B k:=by exact fun _ h=>h):St w0 M0 ds a w l (x::bs) (Φ::fs):=
 S.add (h.less fun k _ ⟨it,hi,hk⟩=>by
  rcases List.mem_cons.1 hi with rfl | hi
  exact .inr (hB k hk)
  exact .inl (hold k ⟨it,hi,hk⟩))
theorem block_c (h:List Int) (blk:Blk) (hh:h.length=8) (w0:World):Ret Tryz.prog 264 [.agg ⟨u32s h⟩,vBlk blk] w0 (fun _=>False) fun v _=>v=.agg ⟨u32s (blockF h blk.l)⟩:=by
 have hN8:LenN h 8:=⟨hh⟩
 have hbl:=blk.h
 refine enter Tryz.func264 rfl rfl (Wd.start w0) (fun a S=>?_)
 simp only[Tryz.ntmps264,qqA,qqB,Nat.reduceAdd,Nat.reduceSub,qqC,qqD,qqE,qqF]at S
 refine kS (kR ?_);refine sa S ?_;clear S;intro b2 a w S;refine sa S ?_;clear S;intro b3 a w S;refine sa S ?_;clear S;intro b4 a w S;refine kN (xtn (kS (kR ?_)));(iterate 2 (refine sq S ?_;clear S;intro a S));refine sa S ?_;clear S;intro b5 a w S;refine sa S ?_;clear S;intro b6 a w S;(iterate 2 (refine sw S ?_;clear S;intro a w S));refine kN (xtn (kS (kR ?_)));(iterate 2 (refine sq S ?_;clear S;intro a S));refine sa S ?_;clear S;intro b7 a w S;refine sa S ?_;clear S;intro b8 a w S;(iterate 2 (refine sw S ?_;clear S;intro a w S));refine kN (xtn (kS (kR ?_)));refine sa S ?_;clear S;intro b9 a w S;refine kN (xtn (kS ?_))
 rw[show ([.int .u32 0,.int .u32 0,.int .u32 0,.int .u32 0,.int .u32 0,.int .u32 0,.int .u32 0,.int .u32 0,.int .u32 0,.int .u32 0,.int .u32 0,.int .u32 0,.int .u32 0,.int .u32 0,.int .u32 0,.int .u32 0]:List Value)=u32s (List.replicate 16 0) from rfl]at S
 rw[show ([.int .u32 0,.int .u32 0,.int .u32 0,.int .u32 0,.int .u32 0,.int .u32 0,.int .u32 0,.int .u32 0]:List Value)=u32s (List.replicate 8 0) from rfl]at S
 refine kR (sq S ?_);clear S;intro a S
 have hold:=foots_lt S
 refine snew S (oread_c blk.l (some ⟨b3,0,none⟩) 64 64 _ blk.h (by omega) (glStable (glBox (S.box b3)))) ?_;clear S;rintro _ a w hsz ⟨br,q,e,rfl,hbr,hrd,hqe,hq⟩ hS -
 have S:=hS (Wk.box br 238 [.slice q blk.l.length e,.int .i64 0]) hrd (fun k hk=>by rw[show k=br from hk];exact hbr)
 clear hS
 replace S:=St.addOld S hold hq
 refine sq S ?_;clear S;intro a S;refine kN (xtn (kS (kS (kR (sq S ?_)))));clear S;intro a S;refine kN (xtn (kB ?_))
 refine c_fore4 S (fun(k:Nat) (ws:List Int) (p:Option Addr) (c:Nat) uu=>[(11,uu 11),(17,.int .i64 (k:Nat)),(0,uu 30),(0,uu 31),(0,uu 32),(0,uu 33),(0,uu 34),(0,uu 35),(0,uu 36)]) (fun(k:Nat) (ws:List Int) (p:Option Addr) (c:Nat)=>[Wk.box br 238 [.slice p (blk.l.drop (4*k)).length c,.int .i64 0],Wk.box b9 322 (u32s ws),Wk.box b8 321 [.int .i64 6,.int .i64 11,.int .i64 25,.func (.func 274) #[] #[]],Wk.box b7 321 [.int .i64 2,.int .i64 13,.int .i64 22,.func (.func 274) #[] #[]],Wk.box b6 321 [.int .i64 17,.int .i64 19,.int .i64 10,.func (.func 273) #[] #[]],Wk.box b5 321 [.int .i64 7,.int .i64 18,.int .i64 3,.func (.func 273) #[] #[]],Wk.box b4 313 (u32s (List.replicate 8 0)),Wk.box b3 128 (encL blk.l),Wk.box b2 313 (u32s h)]) (fun(k:Nat) (ws:List Int) (p:Option Addr) (c:Nat)=>[GlF p (blk.l.drop (4*k))]) (fun(k:Nat) (ws:List Int) (p:Option Addr) (c:Nat)=>k≤16∧ws.length=16∧ws.take k=(w16 blk.l).take k∧(blk.l.drop (4*k)).length≤c) (fun(k:Nat) (ws:List Int) (p:Option Addr) (c:Nat)=>16 - k) (0) (List.replicate 16 0) (q) (e) ?_ S.uu ?_ ?_
 ·exact ⟨by omega,by simp,rfl,hqe⟩
 ·exact S
 ·clear S;rintro k ws p c uu a w ⟨hk,hwl,hwt,hkc⟩ S
  refine kS (kR (sq S ?_));clear S;intro a S;refine kN (xtn (kS ?_))
  refine kC S (fun h6=>?_) (fun h6=>?_)
  ·refine kK (xtn (kS (kB (kS ?_))))
   have hk16:k < 16:=by simp at h6;omega
   have hK:KLt k 16:=⟨hk16⟩
   have hK2:KLt k ws.length:=⟨by omega⟩
   have hdl:(blk.l.drop (4*k)).length=64 - 4*k:=by rw[List.length_drop,hbl]
   have hdd:(blk.l.drop (4*k)).length - 4=(blk.l.drop (4*(k+1))).length:=by rw[List.length_drop,List.length_drop];omega
   refine kR ?_;(iterate 2 (refine sq S ?_;clear S;intro a S));refine kN (xtn (kR ?_));(iterate 2 (refine sq S ?_;clear S;intro a S))
   have hf:=S.gl p (xs:=blk.l.drop (4*k))
   refine sit (Wk.box br 238 [.slice p (blk.l.drop (4*k)).length c,.int .i64 0]) S (u32_c br (blk.l.drop (4*k)) p c _ (by omega) hkc (by omega) (S.box br) (S.lend (Wk.box br 238 [.slice p (blk.l.drop (4*k)).length c,.int .i64 0]) (S.mem.fact (GlF p (blk.l.drop (4*k)))))) rfl ?_;clear S;rintro _ a w ⟨rfl,hbx⟩ hS
   have S:=hS (Wk.box br 238 [.slice (if c=4 then p else p.map (·.add (4*1))) ((blk.l.drop (4*k)).length - 4) (c - 4),.int .i64 0]) hbx (fun k h=>.inl h)
   clear hS
   replace S:=S.add (Φ:=GlF (if c=4 then p else p.map (·.add (4*1))) ((blk.l.drop (4*k)).drop 4)) ((S.mem.fact (GlF p (blk.l.drop (4*k)))).imp fun _ h=>h.drop 4 hkc)
   rw[hdd,List.drop_drop,show 4*k+4=4*(k+1) from by omega]at S
   refine sq S ?_;clear S;intro a S;refine sw S ?_;clear S;intro a w S;refine kN (xbn (xtn (kR ?_)));(iterate 2 (refine sq S ?_;clear S;intro a S));refine kN (xtn ?_)
   rw[w64 ((k:Int)+1) (by omega) (by omega)]at S
   rw[←w16_get blk.l k hk16]at S
   exact ⟨k+1,ws.set k (nthI (w16 blk.l) k),(if c=4 then p else p.map (·.add (4*1))),c - 4,S.uu,⟨hk16,by rw[List.length_set];exact hwl,set_step (by omega) (by rw[w16_len,hwl]) hwt,by omega⟩,S.sub _ _,by omega⟩
  ·refine kE (xte (xte (xbe (xtn (kS ?_)))))
   have hk16:k=16:=by simp at h6;omega
   have hws:ws=w16 blk.l:=by
    subst hk16
    rw[List.take_of_length_le (by omega),List.take_of_length_le (by rw[w16_len];exact Nat.le_refl _)]at hwt
    exact hwt
   have hL0:LenN (List.replicate 8 (0:Int)) 8:=⟨by simp⟩
   refine kR (sq S ?_);clear S;intro a S;refine sa S ?_;clear S;intro b12 a w S
   rw[show ([.int .u32 0,.int .u32 0,.int .u32 0,.int .u32 0,.int .u32 0,.int .u32 0,.int .u32 0,.int .u32 0]:List Value)=u32s (List.replicate 8 0) from rfl]at S
   refine sw S ?_;clear S;intro a w S;refine kN (xtn (kS (kS (kR ?_))));refine sr S (constants_c _) ?_;clear S;rintro _ a w rfl S;refine sq S ?_;clear S;intro a S;refine kN (xtn (kB ?_))
   refine c_fore3 S (fun(t:Nat) (ws:List Int) (row:List Int) uu=>[(13,uu 13),(0,uu 14),(0,uu 15),(0,uu 16),(0,uu 17),(0,uu 18),(0,uu 19),(0,uu 20),(0,uu 21),(17,.int .i64 (t:Nat)),(0,uu 40),(0,uu 41),(0,uu 42),(0,uu 43),(0,uu 44),(0,uu 45),(0,uu 46),(0,uu 47),(0,uu 48),(0,uu 49),(0,uu 50),(0,uu 51),(0,uu 52),(0,uu 53),(0,uu 54),(0,uu 55),(0,uu 56),(0,uu 57),(0,uu 58),(0,uu 59),(0,uu 60),(0,uu 61),(0,uu 62),(0,uu 63),(0,uu 64),(0,uu 65),(0,uu 66),(0,uu 67),(0,uu 68),(0,uu 69),(0,uu 70),(0,uu 71),(0,uu 72),(0,uu 73),(0,uu 74),(0,uu 75),(0,uu 76),(0,uu 77),(0,uu 78),(0,uu 79),(0,uu 80),(0,uu 81),(0,uu 82),(0,uu 83),(0,uu 84),(0,uu 85),(0,uu 86),(0,uu 87),(0,uu 88),(0,uu 89),(0,uu 90),(0,uu 91),(0,uu 92),(0,uu 93),(0,uu 94),(0,uu 95),(0,uu 96),(0,uu 97),(0,uu 98),(0,uu 99),(0,uu 100),(0,uu 101),(0,uu 102),(0,uu 103),(0,uu 104),(0,uu 105),(0,uu 106),(0,uu 107),(0,uu 108),(0,uu 109),(0,uu 110),(0,uu 111),(0,uu 112),(0,uu 113),(0,uu 114),(0,uu 115),(0,uu 116),(0,uu 117),(0,uu 118),(0,uu 119),(0,uu 120),(0,uu 121),(0,uu 122),(0,uu 123),(0,uu 124),(0,uu 125),(0,uu 126),(0,uu 127),(0,uu 128),(0,uu 129),(0,uu 130),(0,uu 131),(0,uu 132),(0,uu 133),(0,uu 134),(0,uu 135),(0,uu 136),(0,uu 137),(0,uu 138),(0,uu 139),(0,uu 140),(0,uu 141),(0,uu 142),(0,uu 143),(0,uu 144)]) (fun(t:Nat) (ws:List Int) (row:List Int)=>[Wk.box b12 313 (u32s row),Wk.box b9 322 (u32s ws),Wk.box b8 321 [.int .i64 6,.int .i64 11,.int .i64 25,.func (.func 274) #[] #[]],Wk.box b7 321 [.int .i64 2,.int .i64 13,.int .i64 22,.func (.func 274) #[] #[]],Wk.box b6 321 [.int .i64 17,.int .i64 19,.int .i64 10,.func (.func 273) #[] #[]],Wk.box b5 321 [.int .i64 7,.int .i64 18,.int .i64 3,.func (.func 273) #[] #[]],Wk.box b4 313 (u32s (List.replicate 8 0)),Wk.box b2 313 (u32s h)]) (fun(t:Nat) (ws:List Int) (row:List Int)=>[]) (fun(t:Nat) (ws:List Int) (row:List Int)=>t≤64∧rounds blk.l h t=(ws,row)) (fun(t:Nat) (ws:List Int) (row:List Int)=>64 - t) (0) (ws) (h) ?_ S.uu ?_ ?_
   ·exact ⟨by omega,by rw[hws];rfl⟩
   ·first | exact S | exact S.sub _ _
   ·clear S;rintro t ws row uu a w ⟨ht,hrt⟩ S
    refine kS (kR (sq S ?_));clear S;intro a S;refine kN (xtn (kS ?_))
    refine kC S (fun h12=>?_) (fun h12=>?_)
    ·refine kK (xtn (kS (kB (kS ?_))))
     have ht64:t < 64:=by simp at h12;omega
     have hlen:=rounds_len blk.l h t
     rw[hrt]at hlen
     have hwl2:ws.length=16:=hlen.1
     have hrl:row.length=8:=hlen.2.trans hh
     have hKt:KLt t shaK.length:=⟨ht64⟩
     have hLK:LenN shaK 64:=⟨rfl⟩
     have hK16:KLt (t % 16) 16:=⟨Nat.mod_lt _ (by omega)⟩
     have hKw:KLt (t % 16) ws.length:=⟨by omega⟩
     have hp:∀ i,posF t i < 8:=fun i=>Nat.mod_lt _ (by omega)
     have hK0:KLt (posF t 0) row.length:=⟨by rw[hrl];exact hp 0⟩
     have hK1:KLt (posF t 1) row.length:=⟨by rw[hrl];exact hp 1⟩
     have hK2:KLt (posF t 2) row.length:=⟨by rw[hrl];exact hp 2⟩
     have hK3:KLt (posF t 3) row.length:=⟨by rw[hrl];exact hp 3⟩
     have hK4:KLt (posF t 4) row.length:=⟨by rw[hrl];exact hp 4⟩
     have hK5:KLt (posF t 5) row.length:=⟨by rw[hrl];exact hp 5⟩
     have hK6:KLt (posF t 6) row.length:=⟨by rw[hrl];exact hp 6⟩
     have hK7:KLt (posF t 7) row.length:=⟨by rw[hrl];exact hp 7⟩
     refine kR ?_;(iterate 2 (refine sq S ?_;clear S;intro a S));refine sa S ?_;clear S;intro b13 a w S;refine sw S ?_;clear S;intro a w S;refine sq S ?_;clear S;intro a S;refine kN (xtn (kS (kR ?_)));(iterate 2 (refine sq S ?_;clear S;intro a S))
     rw[show (t:Int).tmod 16=((t % 16:Nat):Int) from by rw[Int.tmod_eq_emod_of_nonneg (by omega)];omega]at S
     (iterate 2 (refine sq S ?_;clear S;intro a S));refine kN (xtn ?_)
     refine c_mrge1 S (fun(ws1:List Int) uu=>[(46,uu 46),(0,uu 47),(0,uu 48),(0,uu 49),(0,uu 50),(0,uu 51),(0,uu 52),(0,uu 53),(0,uu 54),(0,uu 55),(0,uu 56),(0,uu 57),(0,uu 58),(0,uu 59),(0,uu 60),(0,uu 61),(0,uu 62),(0,uu 63),(0,uu 64),(0,uu 65),(0,uu 66),(0,uu 67),(0,uu 68),(0,uu 69),(0,uu 70),(0,uu 71),(0,uu 72),(0,uu 73)]) (fun(ws1:List Int)=>[Wk.box b13 3 [.int .i64 (t:Int)],Wk.box b12 313 (u32s row),Wk.box b9 322 (u32s ws1),Wk.box b8 321 [.int .i64 6,.int .i64 11,.int .i64 25,.func (.func 274) #[] #[]],Wk.box b7 321 [.int .i64 2,.int .i64 13,.int .i64 22,.func (.func 274) #[] #[]],Wk.box b6 321 [.int .i64 17,.int .i64 19,.int .i64 10,.func (.func 273) #[] #[]],Wk.box b5 321 [.int .i64 7,.int .i64 18,.int .i64 3,.func (.func 273) #[] #[]],Wk.box b4 313 (u32s (List.replicate 8 0)),Wk.box b2 313 (u32s h)]) (fun(ws1:List Int)=>[]) (fun(ws1:List Int)=>ws1=wordF t ws) ?_ ?_
     ·refine kS (kR ?_);(iterate 2 (refine sq S ?_;clear S;intro a S));refine kN (xtn ?_)
      refine kC S (fun h15=>?_) (fun h15=>?_)
      ·have ht16:16≤t:=by simp at h15;omega
       have hKa:KLt ((t - 2) % 16) 16:=⟨Nat.mod_lt _ (by omega)⟩
       have hKa2:KLt ((t - 2) % 16) ws.length:=⟨by omega⟩
       have hKb:KLt ((t - 7) % 16) 16:=⟨Nat.mod_lt _ (by omega)⟩
       have hKb2:KLt ((t - 7) % 16) ws.length:=⟨by omega⟩
       have hKc:KLt ((t - 15) % 16) 16:=⟨Nat.mod_lt _ (by omega)⟩
       have hKc2:KLt ((t - 15) % 16) ws.length:=⟨by omega⟩
       have hna:NeK ((t - 2) % 16) (t % 16):=⟨by omega⟩
       have hnb:NeK ((t - 7) % 16) (t % 16):=⟨by omega⟩
       have hnc:NeK ((t - 15) % 16) (t % 16):=⟨by omega⟩
       have hx:=S.box b9
       have hlt9:b9 < w.heap.size:=(Array.getElem?_eq_some_iff.1 hx).1
       replace S:=S.hideK b9 322 ws (t % 16) inferInstance
       refine c_drwHe0 (.q 0 (.q 1 (.q 3 (.q 4 (.q 5 (.q 6 (.q 7 (.q 8 (.q 10 (.q 11 (.q 12 (.q 13 (.q 14 (.q 16 (.q 17 (.q 18 (.q 19 (.q 20 (.q 21 (.b2 2 9 (.l 9 (.q 15 (.l 22 (.q 23 (.q 24 (.q 25 (.l 26 (.e)))))))) (.q 15 (.b2 2 22 (.l 22 (.q 23 (.q 24 (.q 25 (.l 26 (.e)))))) (.q 23 (.l 2 (.q 24 (.q 25 (.l 26 (.e)))))))))))))))))))))))))))) S (fun  uu=>[(48,uu 48),(0,uu 49),(0,uu 50),(0,uu 51),(0,uu 52),(0,uu 53),(0,uu 54),(0,uu 55),(0,uu 56),(0,uu 57),(0,uu 58),(0,uu 59),(0,uu 60),(0,uu 61),(0,uu 62),(0,uu 63),(0,uu 64),(0,uu 65),(0,uu 66),(0,uu 67),(0,uu 68),(0,uu 69),(0,uu 70),(0,uu 71),(0,uu 72),(0,uu 73)]) [Wk.box b13 3 [.int .i64 (t:Int)],Wk.box b12 313 (u32s row),bxk b9 322 ws (t % 16),Wk.box b8 321 [.int .i64 6,.int .i64 11,.int .i64 25,.func (.func 274) #[] #[]],Wk.box b7 321 [.int .i64 2,.int .i64 13,.int .i64 22,.func (.func 274) #[] #[]],Wk.box b6 321 [.int .i64 17,.int .i64 19,.int .i64 10,.func (.func 273) #[] #[]],Wk.box b5 321 [.int .i64 7,.int .i64 18,.int .i64 3,.func (.func 273) #[] #[]],Wk.box b4 313 (u32s (List.replicate 8 0)),Wk.box b2 313 (u32s h)] ([Wk.box b13 3 [.int .i64 (t:Int)],Wk.box b12 313 (u32s row),Wk.box b9 322 (u32s (wordF t ws)),Wk.box b8 321 [.int .i64 6,.int .i64 11,.int .i64 25,.func (.func 274) #[] #[]],Wk.box b7 321 [.int .i64 2,.int .i64 13,.int .i64 22,.func (.func 274) #[] #[]],Wk.box b6 321 [.int .i64 17,.int .i64 19,.int .i64 10,.func (.func 273) #[] #[]],Wk.box b5 321 [.int .i64 7,.int .i64 18,.int .i64 3,.func (.func 273) #[] #[]],Wk.box b4 313 (u32s (List.replicate 8 0)),Wk.box b2 313 (u32s h)]) ([]) (True) ?_ ?_
       ·intro w hheap S
        replace hx:w.heap[b9]? = some (.cells (u32s ws).toArray 322 (0,0)):=by rw[hheap];exact hx
        (iterate 5 (refine tq S ?_;clear S;intro a S))
        rw[show IntKind.i64.wrap ((t:Int) - 2)=((t - 2:Nat):Int) from by rw[w64 _ (by omega) (by omega)];omega]at S
        refine tq S ?_;clear S;intro a S
        rw[show ((t - 2:Nat):Int).tmod 16=(((t - 2) % 16:Nat):Int) from by rw[Int.tmod_eq_emod_of_nonneg (by omega)];omega]at S
        (iterate 4 (refine tq S ?_;clear S;intro a S))
        rw[show IntKind.i64.wrap ((t:Int) - 7)=((t - 7:Nat):Int) from by rw[w64 _ (by omega) (by omega)];omega]at S
        refine tq S ?_;clear S;intro a S
        rw[show ((t - 7:Nat):Int).tmod 16=(((t - 7) % 16:Nat):Int) from by rw[Int.tmod_eq_emod_of_nonneg (by omega)];omega]at S
        (iterate 5 (refine tq S ?_;clear S;intro a S))
        rw[show IntKind.i64.wrap ((t:Int) - 15)=((t - 15:Nat):Int) from by rw[w64 _ (by omega) (by omega)];omega]at S
        refine tq S ?_;clear S;intro a S
        rw[show ((t - 15:Nat):Int).tmod 16=(((t - 15) % 16:Nat):Int) from by rw[Int.tmod_eq_emod_of_nonneg (by omega)];omega]at S
        (iterate 2 (refine tq S ?_;clear S;intro a S))
        refine tb2 ?_ ?_
        ·refine sl1 (.int .u32 (nthI ws (t % 16))) S (by rw[cell_of_row _ b9 (t % 16) _ 322 (0,0) hx];simpa using u32s_get (l:=ws) (k:=t % 16) (by omega)) ?_;clear S;intro a S
         refine te S ?_;refine tl ?_
         refine sr S (Ret.alsoS (pushmix_c 17 19 10 (nthI ws ((t - 2) % 16)) (by omega) (by omega) _)) ?_;clear S;rintro _ a w ⟨rfl,hag⟩ S
         replace hx:=(hag.blk (Array.getElem?_eq_some_iff.1 hx).1 (fun h=>h)).trans hx
         clear hag
         refine te S ?_;refine tq S ?_;clear S;intro a S;refine tl ?_
         refine sr S (Ret.alsoS (pushmix_c 7 18 3 (nthI ws ((t - 15) % 16)) (by omega) (by omega) _)) ?_;clear S;rintro _ a w ⟨rfl,hag⟩ S
         replace hx:=(hag.blk (Array.getElem?_eq_some_iff.1 hx).1 (fun h=>h)).trans hx
         clear hag
         refine te S ?_;(iterate 3 (refine tq S ?_;clear S;intro a S));refine tl ?_
         refine swk b9 322 ws (t % 16) S (by omega) hx ?_;clear S hx;intro a w hx S
         refine te S ?_;refine tn ?_
         have e:wordF t ws=ws.set (t % 16) (a32 (nthI ws (t % 16)) (a32 (a32 (mixF pushF 17 19 10 (nthI ws ((t - 2) % 16))) (nthI ws ((t - 7) % 16))) (mixF pushF 7 18 3 (nthI ws ((t - 15) % 16))))):=by rw[wordF,if_neg (by omega)]
         replace S:=S.showK b9 322 ws (wordF t ws) (t % 16) (by rw[e];exact hx)
         exact ⟨S.uu,trivial,S.sub _ _⟩
        ·refine sr S (Ret.alsoS (pushmix_c 17 19 10 (nthI ws ((t - 2) % 16)) (by omega) (by omega) _)) ?_;clear S;rintro _ a w ⟨rfl,hag⟩ S
         replace hx:=(hag.blk (Array.getElem?_eq_some_iff.1 hx).1 (fun h=>h)).trans hx
         clear hag
         refine te S ?_;refine tq S ?_;clear S;intro a S
         refine tb2 ?_ ?_
         ·refine sl1 (.int .u32 (nthI ws (t % 16))) S (by rw[cell_of_row _ b9 (t % 16) _ 322 (0,0) hx];simpa using u32s_get (l:=ws) (k:=t % 16) (by omega)) ?_;clear S;intro a S
          refine te S ?_;refine tl ?_
          refine sr S (Ret.alsoS (pushmix_c 7 18 3 (nthI ws ((t - 15) % 16)) (by omega) (by omega) _)) ?_;clear S;rintro _ a w ⟨rfl,hag⟩ S
          replace hx:=(hag.blk (Array.getElem?_eq_some_iff.1 hx).1 (fun h=>h)).trans hx
          clear hag
          refine te S ?_;(iterate 3 (refine tq S ?_;clear S;intro a S));refine tl ?_
          refine swk b9 322 ws (t % 16) S (by omega) hx ?_;clear S hx;intro a w hx S
          refine te S ?_;refine tn ?_
          have e:wordF t ws=ws.set (t % 16) (a32 (nthI ws (t % 16)) (a32 (a32 (mixF pushF 17 19 10 (nthI ws ((t - 2) % 16))) (nthI ws ((t - 7) % 16))) (mixF pushF 7 18 3 (nthI ws ((t - 15) % 16))))):=by rw[wordF,if_neg (by omega)]
          replace S:=S.showK b9 322 ws (wordF t ws) (t % 16) (by rw[e];exact hx)
          exact ⟨S.uu,trivial,S.sub _ _⟩
         ·refine sr S (Ret.alsoS (pushmix_c 7 18 3 (nthI ws ((t - 15) % 16)) (by omega) (by omega) _)) ?_;clear S;rintro _ a w ⟨rfl,hag⟩ S
          replace hx:=(hag.blk (Array.getElem?_eq_some_iff.1 hx).1 (fun h=>h)).trans hx
          clear hag
          refine te S ?_;refine tq S ?_;clear S;intro a S;refine tl ?_
          refine sl1 (.int .u32 (nthI ws (t % 16))) S (by rw[cell_of_row _ b9 (t % 16) _ 322 (0,0) hx];simpa using u32s_get (l:=ws) (k:=t % 16) (by omega)) ?_;clear S;intro a S
          refine te S ?_;(iterate 2 (refine tq S ?_;clear S;intro a S));refine tl ?_
          refine swk b9 322 ws (t % 16) S (by omega) hx ?_;clear S hx;intro a w hx S
          refine te S ?_;refine tn ?_
          have e:wordF t ws=ws.set (t % 16) (a32 (nthI ws (t % 16)) (a32 (a32 (mixF pushF 17 19 10 (nthI ws ((t - 2) % 16))) (nthI ws ((t - 7) % 16))) (mixF pushF 7 18 3 (nthI ws ((t - 15) % 16))))):=by rw[wordF,if_neg (by omega)]
          replace S:=S.showK b9 322 ws (wordF t ws) (t % 16) (by rw[e];exact hx)
          exact ⟨S.uu,trivial,S.sub _ _⟩
       clear S;rintro  uu a w - S;refine xtn ?_
       exact ⟨wordF t ws,S.uu,rfl,S.sub _ _⟩
      ·refine kK (xtn ?_)
       have ht16:t < 16:=by simp at h15;omega
       have e:wordF t ws=ws:=by rw[wordF,if_pos ht16]
       exact ⟨ws,S.uu,e.symm,S.sub _ _⟩
     ·clear S;rintro ws1 uu a w hws1 S;refine kS ?_
      have hKw1:KLt (t % 16) ws1.length:=⟨by rw[hws1,wordF_len];omega⟩
      refine kR ?_;(iterate 2 (refine sq S ?_;clear S;intro a S));refine kN (xtn (kS ?_));refine c_drawD [(0,true),(4,true),(8,true),(12,true),(1,false),(2,true),(3,true),(5,false),(6,true),(7,true),(9,false),(10,true),(11,true),(13,false),(14,true),(15,true),(16,true),(17,true),(18,true),(19,true)] [] S ?_;clear S;intro w S;(iterate 4 (refine dq S ?_;clear S;intro a S));refine dl ?_
      refine sr S (at_c b12 b13 0 t (by omega) ht _ (BoxF.stable (S.boxF b13) (fun h=>h))) ?_;clear S;rintro _ a w rfl S
      refine de S ?_;(iterate 2 (refine dq S ?_;clear S;intro a S));refine dl ?_
      refine sr S (at_c b12 b13 2 t (by omega) ht _ (BoxF.stable (S.boxF b13) (fun h=>h))) ?_;clear S;rintro _ a w rfl S
      refine de S ?_;(iterate 2 (refine dq S ?_;clear S;intro a S));refine dl ?_
      refine sr S (at_c b12 b13 4 t (by omega) ht _ (BoxF.stable (S.boxF b13) (fun h=>h))) ?_;clear S;rintro _ a w rfl S
      refine de S ?_;(iterate 2 (refine dq S ?_;clear S;intro a S));refine dl ?_
      refine sr S (at_c b12 b13 6 t (by omega) ht _ (BoxF.stable (S.boxF b13) (fun h=>h))) ?_;clear S;rintro _ a w rfl S
      refine de S ?_;(iterate 6 (refine dq S ?_;clear S;intro a S));refine dn (xtn (kS ?_));refine c_drawD [(0,true),(4,true),(5,true),(8,true),(9,true),(10,true),(14,true),(19,true),(21,true),(22,true),(23,true),(1,false),(2,true),(3,true),(6,false),(7,true),(11,false),(12,true),(13,true),(15,true),(16,true),(17,true),(18,true),(20,true),(24,true),(25,true)] [] S ?_;clear S;intro w S;(iterate 11 (refine dq S ?_;clear S;intro a S));refine dl ?_
      refine sr S (at_c b12 b13 7 t (by omega) ht _ (BoxF.stable (S.boxF b13) (fun h=>h))) ?_;clear S;rintro _ a w rfl S
      refine de S ?_;(iterate 2 (refine dq S ?_;clear S;intro a S));refine dl ?_
      refine sr S (turnmix_c 6 11 25 _ (by omega) (by omega) (by omega) _) ?_;clear S;rintro _ a w rfl S
      refine de S ?_;refine dq S ?_;clear S;intro a S;refine dl ?_
      refine sr S (at_c b12 b13 5 t (by omega) ht _ (BoxF.stable (S.boxF b13) (fun h=>h))) ?_;clear S;rintro _ a w rfl S
      refine de S ?_;(iterate 9 (refine dq S ?_;clear S;intro a S));refine dn (xtn (kS ?_))
      have e:=Eq.refl (sumF t (nthI shaK t) (nthI ws1 (t % 16)) row)
      conv at e=>rhs;simp only[sumF,a32,posF]
      rw[←e]at S
      clear e
      refine kR (sq S ?_);clear S;intro a S
      refine sr S (at_c b12 b13 3 t (by omega) ht _ (BoxF.stable (S.boxF b13) (fun h=>h))) ?_;clear S;rintro _ a w rfl S
      (iterate 5 (refine sq S ?_;clear S;intro a S));refine sw S ?_;clear S;intro a w S
      rw[show row.set ((3+(64 - t)) % 8) (IntKind.u32.wrap (nthI row ((3+(64 - t)) % 8)+sumF t (nthI shaK t) (nthI ws1 (t % 16)) row))=row1F t (nthI shaK t) (nthI ws1 (t % 16)) row from rfl]at S
      have hr1:(row1F t (nthI shaK t) (nthI ws1 (t % 16)) row).length=8:=by rw[row1F,List.length_set,hrl]
      have hK1b:KLt (posF t 1) (row1F t (nthI shaK t) (nthI ws1 (t % 16)) row).length:=⟨by rw[hr1];exact hp 1⟩
      have hK7b:KLt (posF t 7) (row1F t (nthI shaK t) (nthI ws1 (t % 16)) row).length:=⟨by rw[hr1];exact hp 7⟩
      refine kN (xtn ?_)
      refine' c_drawT0 (.q 0 (.q 2 (.q 3 (.q 4 (.q 7 (.q 8 (.q 9 (.q 10 (.q 14 (.q 15 (.q 16 (.l 1 (.l 5 (.q 6 (.l 11 (.q 12 (.l 13 (.q 17 (.q 18 (.q 19 (.q 20 (.l 21 (.e))))))))))))))))))))))) [b12] S ?_ ?_
      rotate_left 3
      ·intro w S
       (iterate 11 (refine tq S ?_;clear S;intro a S));refine tl ?_
       refine sr S (at_c b12 b13 7 t (by omega) ht _ (BoxF.stable (S.boxF b13) (fun h=>h))) ?_;clear S;rintro _ a w rfl S
       refine te S ?_;refine tl ?_
       refine sr S (turnmix_c 2 13 22 _ (by omega) (by omega) (by omega) _) ?_;clear S;rintro _ a w rfl S
       refine te S ?_;refine tq S ?_;clear S;intro a S;refine tl ?_
       refine sr S (at_c b12 b13 1 t (by omega) ht _ (BoxF.stable (S.boxF b13) (fun h=>h))) ?_;clear S;rintro _ a w rfl S
       refine te S ?_;refine tq S ?_;clear S;intro a S;refine tl (sq S ?_);clear S;intro a S;refine te S ?_;(iterate 4 (refine tq S ?_;clear S;intro a S));refine tl (sw S ?_);clear S;intro a w S;refine te S ?_;refine tn ?_
       exact S
      intro  a w S
      refine xbn (xtn (kR ?_));(iterate 2 (refine sq S ?_;clear S;intro a S));refine kN (xtn ?_)
      have e:=Eq.refl (rowF t (nthI shaK t) (nthI ws1 (t % 16)) row)
      conv at e=>rhs;simp only[rowF,a32,posF]
      rw[←e]at S
      clear e
      rw[w64 ((t:Int)+1) (by omega) (by omega)]at S
      refine ⟨t+1,ws1,rowF t (nthI shaK t) (nthI ws1 (t % 16)) row,S.uu,⟨by omega,?_⟩,S.sub _ _,by omega⟩
      rw[rounds,hrt,hws1]
    ·refine kE (xte (xte (xbe (xtn (kS (kS ?_))))))
     have ht64:t=64:=by simp at h12;omega
     subst ht64
     have hlen:=rounds_len blk.l h 64
     rw[hrt]at hlen
     have hrl:row.length=8:=hlen.2.trans hh
     refine kR (sq S ?_);clear S;intro a S;refine kN (xtn (kB ?_))
     refine c_fore2 S (fun(i:Nat) (g:List Int) uu=>[(22,uu 22),(122,.int .i64 (i:Nat)),(0,uu 146),(0,uu 147),(0,uu 148),(0,uu 149),(0,uu 150),(0,uu 151),(0,uu 152),(0,uu 153),(0,uu 154),(0,uu 155),(0,uu 156)]) (fun(i:Nat) (g:List Int)=>[Wk.box b12 313 (u32s row),Wk.box b4 313 (u32s (List.replicate 8 0)),Wk.box b2 313 (u32s g)]) (fun(i:Nat) (g:List Int)=>[]) (fun(i:Nat) (g:List Int)=>i≤8∧g.length=8∧g.take i=(blockF h blk.l).take i∧g.drop i=h.drop i) (fun(i:Nat) (g:List Int)=>8 - i) (0) (h) ?_ S.uu ?_ ?_
     ·exact ⟨by omega,hh,rfl,rfl⟩
     ·first | exact S | exact S.sub _ _
     ·clear S;rintro i g uu a w ⟨hi,hgl,hgt,hgd⟩ S
      refine kS (kR (sq S ?_));clear S;intro a S;refine kN (xtn (kS ?_))
      refine kC S (fun h24=>?_) (fun h24=>?_)
      ·refine kK (xtn (kS (kB (kS ?_))))
       have hi8:i < 8:=by simp at h24;omega
       have hKi:KLt i 8:=⟨hi8⟩
       have hKi2:KLt i g.length:=⟨by omega⟩
       have hKi3:KLt i row.length:=⟨by omega⟩
       have hgi:nthI g i=nthI h i:=by
        have:=congrArg (fun l=>l[0]?) hgd
        simp only[List.getElem?_drop,Nat.add_zero]at this
        rw[nthI_get (by omega),nthI_get (by omega)]at this
        exact Option.some.inj this
       have hbi:nthI (blockF h blk.l) i=a32 (nthI h i) (nthI row i):=by
        have:(rounds blk.l h 64).2=row:=by rw[hrt]
        rw[←this]
        simp[nthI,blockF,List.getD_eq_getElem?_getD,hi8]
       refine kR ?_;(iterate 2 (refine sq S ?_;clear S;intro a S));refine kN (xtn ?_)
       refine' c_drawT0 (.q 0 (.q 1 (.q 3 (.q 4 (.q 5 (.l 2 (.q 6 (.q 7 (.l 8 (.e)))))))))) [b2] S ?_ ?_
       rotate_left 3
       ·intro w S
        (iterate 5 (refine tq S ?_;clear S;intro a S));refine tl (sq S ?_);clear S;intro a S;refine te S ?_;(iterate 2 (refine tq S ?_;clear S;intro a S));refine tl (sw S ?_);clear S;intro a w S;refine te S ?_;refine tn ?_
        exact S
       intro  a w S
       refine xbn (xtn (kR ?_));(iterate 2 (refine sq S ?_;clear S;intro a S));refine kN (xtn ?_)
       rw[w64 ((i:Int)+1) (by omega) (by omega),hgi,show IntKind.u32.wrap (nthI h i+nthI row i)=nthI (blockF h blk.l) i from hbi.symm]at S
       refine ⟨i+1,g.set i (nthI (blockF h blk.l) i),S.uu,⟨by omega,by rw[List.length_set];exact hgl,set_step (by omega) (by rw[blockF_len,hgl]) hgt,?_⟩,S.sub _ _,by omega⟩
       rw[List.drop_set_of_lt (by omega),←List.drop_drop,hgd,List.drop_drop]
      ·refine kE (xte (xte (xbe (xtn (kS ?_)))))
       have hi8:i=8:=by simp at h24;omega
       have hg8:LenN g 8:=⟨hgl⟩
       have hL0:LenN (List.replicate 8 (0:Int)) 8:=⟨by simp⟩
       have hgb:g=blockF h blk.l:=by
        subst hi8
        rw[List.take_of_length_le (by omega),List.take_of_length_le (by rw[blockF_len];exact Nat.le_refl _)]at hgt
        exact hgt
       refine kR (sq S ?_);clear S;intro a S;refine sw S ?_;clear S;intro a w S;refine kN (xtn (kT ?_))
       refine end1 S (fun _=>?_)
       rw[hgb]
def padF (bs:List UInt8):List UInt8:=bs++[128]++List.replicate ((119 - bs.length % 64) % 64) 0++be 8 (8*(bs.length:Int))
theorem padF_len (bs:List UInt8):(padF bs).length=bs.length+1+(119 - bs.length % 64) % 64+8:=by
 unfold padF;rw[List.length_append,List.length_append,List.length_append,be_len,List.length_replicate];rfl
theorem pad_c (bs:List UInt8) (p:Option Addr) (n c:Nat) (w0:World) (hn:bs.length=n) (hl:n≤1000000) (hx:Stable (fun _=>False) w0 (SlF p (encL bs))) :
  Ret Tryz.prog 263 [.slice p n c] w0 (fun _=>False) fun r w'=>∃ g,r=.slice (some ⟨g,0,none⟩) (padF bs).length (padF bs).length∧w0.heap.size≤g∧w'.ownsRow 0 5 1 (.slice (some ⟨g,0,none⟩) (padF bs).length (padF bs).length) (padF bs).length (encL (padF bs)):=by
 have hln:LenN bs n:=⟨hn⟩
 have hpl:=padF_len bs
 refine enter Tryz.func263 rfl rfl (Wd.begin (fs:=[SlF p (encL bs)]) (by simpa using hx)) (fun a S=>?_)
 simp only[Tryz.ntmps263,qqA,qqB,Nat.reduceAdd,Nat.reduceSub,qqC,qqD,qqE,qqF]at S
 refine kS (kR (sq S ?_));clear S;intro a S;refine kN (xtn (kS (kR ?_)));(iterate 5 (refine sq S ?_;clear S;intro a S))
 rw[w64 ((n:Int)+72) (by omega) (by omega)]at S
 refine smkc n (n+72) S rfl (by omega) (by omega) (by omega) (by simp only[maxLen];omega) ?_;clear S;intro g a w S
 refine sq S ?_;clear S;intro a S;refine kN (xtn (kS (kR ?_)));(iterate 2 (refine sq S ?_;clear S;intro a S))
 refine scp S (by omega) ?_;clear S;intro a w S
 rw[show encL bs++(encL (List.replicate n (0:UInt8))).drop (n*1)=encL bs from by rw[List.drop_of_length_le (by rw[encL_len,List.length_replicate];exact Nat.le_refl _),List.append_nil]]at S
 refine kN (xtn (kS (kR (sq S ?_))));clear S;intro a S;refine sn S ?_;clear S;intro b14 a w S
 refine sap S (by simp only[maxLen];omega) (by omega) ?_;clear S;rintro p3 c3 a w - S
 rw[show encL bs++[.int .u8 128]=encL (bs++[128]) from by rw[encL_append];rfl]at S
 refine sq S ?_;clear S;intro a S;refine kN (xtn (kS (kR ?_)));(iterate 4 (refine sq S ?_;clear S;intro a S))
 rw[show (n:Int).tmod 64=((n % 64:Nat):Int) from by rw[Int.tmod_eq_emod_of_nonneg (by omega)];omega]at S
 refine sq S ?_;clear S;intro a S
 rw[show IntKind.i64.wrap (119 - ((n % 64:Nat):Int))=((119 - n % 64:Nat):Int) from by rw[w64 _ (by omega) (by omega)];omega]at S
 refine sq S ?_;clear S;intro a S
 rw[show ((119 - n % 64:Nat):Int).tmod 64=(((119 - n % 64) % 64:Nat):Int) from by rw[Int.tmod_eq_emod_of_nonneg (by omega)];omega]at S
 refine sapz1 p3 (n+1) (m:=(119 - n % 64) % 64) S (by omega) (by simp only[maxLen];omega) (by omega) ?_;clear S;intro p4 c4 a w S
 rw[←encL_append]at S
 refine sq S ?_;clear S;intro a S;refine kN (xtn (kS (kR ?_)));(iterate 4 (refine sq S ?_;clear S;intro a S))
 rw[wu64 (n:Int) (by omega) (by omega)]at S
 refine sq S ?_;clear S;intro a S
 rw[wu64 (8*(n:Int)) (by omega) (by omega)]at S
 refine srn S (put64_c p4 (n+1+(119 - n % 64) % 64) c4 (bs++[128]++List.replicate ((119 - n % 64) % 64) 0) (8*(n:Int)) _ (by rw[List.length_append,List.length_append,List.length_replicate,hn];rfl) (by omega) (by omega) (by omega) ((own_sl (S.row p4 (n+1+(119 - n % 64) % 64))).stable (fun _ _ h=>h))) ?_;clear S;rintro _ a w ⟨g2,rfl,hg2,hown⟩ hS -
 have S:=hS hown (fun ad h=>by cases h;exact hg2)
 clear hS
 have e1:n+1+(119 - n % 64) % 64+8=(padF bs).length:=by rw[hpl,hn]
 have e2:bs++[128]++List.replicate ((119 - n % 64) % 64) 0++be 8 (8*(n:Int))=padF bs:=by rw[padF,hn]
 rw[e1,e2]at S
 refine sq S ?_;clear S;intro a S;refine kN (xtn (kT ?_))
 have hrow:=S.row (some ⟨g2,0,none⟩) (padF bs).length
 have hnew:=S.rowNew (some ⟨g2,0,none⟩) (padF bs).length
 refine end1 S (fun _=>?_)
 exact ⟨g2,rfl,(hnew _ rfl).elim (fun h=>h.elim) id,hrow⟩
def blocksF:Nat→List Int→List UInt8→List Int
 | 0,h,_=>h
 | k+1,h,xs=>blocksF k (blockF h (xs.take 64)) (xs.drop 64)
def outF (h:List Int) (k:Nat):List UInt8:=(List.range k).flatMap fun j=>be 4 (nthI h j)
theorem outF_len (h:List Int) (k:Nat):(outF h k).length=4*k:=by
 induction k with
 | zero=>rfl
 | succ k ih=>rw[outF,List.range_succ,List.flatMap_append,List.length_append];simp only[List.flatMap_cons,List.flatMap_nil,List.append_nil,be_len];rw[show ((List.range k).flatMap fun j=>be 4 (nthI h j)).length=4*k from ih];omega
theorem outF_succ (h:List Int) (k:Nat):outF h (k+1)=outF h k++be 4 (nthI h k):=by
 rw[outF,List.range_succ,List.flatMap_append];simp[outF]
def shaF (bs:List UInt8):List UInt8:=outF (blocksF ((padF bs).length / 64) shaH (padF bs)) 8
theorem shaF_len (bs:List UInt8):(shaF bs).length=32:=outF_len _ 8
theorem wrap32 (x:Int):0≤IntKind.u32.wrap x∧IntKind.u32.wrap x≤4294967295:=by
 unfold IntKind.wrap
 simp only[IntKind.bits,IntKind.signed]
 constructor
 simp;omega
 simp;omega
theorem blockF_u32 (h:List Int) (bs:List UInt8):∀ x∈blockF h bs,0≤x∧x≤4294967295:=fun x hx=>by
 obtain ⟨i,-,rfl⟩:=List.mem_map.1 hx
 exact wrap32 _
theorem sum_c (bs:List UInt8) (p:Option Addr) (n c:Nat) (w0:World) (hn:bs.length=n) (hl:n≤1000000) (hx:Stable (fun _=>False) w0 (SlF p (encL bs))) :
  Ret Tryz.prog 240 [.slice p n c] w0 (fun _=>False) fun r _=>r=.agg ⟨encL (shaF bs)⟩:=by
 have hpl:=padF_len bs
 have hp64:(padF bs).length % 64=0:=by rw[hpl];omega
 have hpm:(padF bs).length≤1000200:=by rw[hpl];omega
 refine enter Tryz.func240 rfl rfl (Wd.begin (fs:=[SlF p (encL bs)]) (by simpa using hx)) (fun a S=>?_)
 simp only[Tryz.ntmps240,qqA,qqB,Nat.reduceAdd,Nat.reduceSub,qqC,qqD,qqE,qqF]at S
 refine kS (kR ?_);refine sa S ?_;clear S;intro b2 a w S;refine kN (xtn (kS (kR ?_)));refine sr S (start_c _) ?_;clear S;rintro _ a w rfl S
 have hH8:LenN shaH 8:=⟨rfl⟩
 have hL0:LenN (List.replicate 8 (0:Int)) 8:=⟨by simp⟩
 refine sa S ?_;clear S;intro b3 a w S
 rw[show ([.int .u32 0,.int .u32 0,.int .u32 0,.int .u32 0,.int .u32 0,.int .u32 0,.int .u32 0,.int .u32 0]:List Value)=u32s (List.replicate 8 0) from rfl]at S
 refine sw S ?_;clear S;intro a w S;refine kN (xtn (kS (kS (kR (sq S ?_)))));clear S;intro a S
 refine srn S (pad_c bs p n c _ hn hl ((S.fact (Φ:=SlF p (encL bs)) (by simp)).less fun _ _ h=>h.elim)) ?_;clear S;rintro _ a w ⟨g,rfl,hg,hown⟩ hS -
 have S:=hS hown (fun ad h=>by cases h;exact hg)
 clear hS
 replace S:=S.rowToGl (some ⟨g,0,none⟩) (padF bs) (e:=5) (sz:=1) (n:=(padF bs).length) (c:=(padF bs).length) (fun _ _ _ _=>trivial)
 refine sq S ?_;clear S;intro a S;refine kN (xtn (kB ?_))
 refine c_fore4 S (fun(h:List Int) (xs:List UInt8) (q:Option Addr) (e:Nat) uu=>[(4,.slice q xs.length e),(5,uu 10),(0,uu 11),(0,uu 12),(0,uu 13),(0,uu 14),(0,uu 15),(0,uu 16),(0,uu 17),(0,uu 18),(0,uu 19)]) (fun(h:List Int) (xs:List UInt8) (q:Option Addr) (e:Nat)=>[Wk.box b3 313 (u32s h),Wk.box b2 296 (encL (List.replicate 32 (0:UInt8)))]) (fun(h:List Int) (xs:List UInt8) (q:Option Addr) (e:Nat)=>[GlF q xs]) (fun(h:List Int) (xs:List UInt8) (q:Option Addr) (e:Nat)=>h.length=8∧xs.length % 64=0∧xs.length≤e∧(∀ x∈h,0≤x∧x≤4294967295)∧blocksF (xs.length / 64) h xs=blocksF ((padF bs).length / 64) shaH (padF bs)) (fun(h:List Int) (xs:List UInt8) (q:Option Addr) (e:Nat)=>xs.length) (shaH) (padF bs) (some ⟨g,0,none⟩) ((padF bs).length) ?_ S.uu ?_ ?_
 ·exact ⟨rfl,hp64,Nat.le_refl _,by decide,rfl⟩
 ·exact S.sub _ _
 ·clear S;rintro h xs q e uu a w ⟨hh8,hx64,hxe,hhu,hbl⟩ S
  refine kS (kS (kR ?_));(iterate 3 (refine sq S ?_;clear S;intro a S));refine kN (xtn ?_)
  refine kC S (fun h3=>?_) (fun h3=>?_)
  ·refine kK (xtn (kS (kB ?_)))
   have hx0:64≤xs.length:=by have:=of_decide_eq_true h3;omega
   have hN8:LenN h 8:=⟨hh8⟩
   have hLe:LeC 64 xs.length:=⟨hx0⟩
   have hLe2:LeC xs.length e:=⟨hxe⟩
   have hLe3:LeC 64 e:=⟨by omega⟩
   obtain ⟨bl,hbl1⟩:∃ bl:Blk,bl.l=xs.take 64:=⟨⟨xs.take 64,by rw[List.length_take];omega⟩,rfl⟩
   obtain ⟨ad,rfl⟩:∃ ad,q=some ad:=by
    cases q with
    | some ad=>exact ⟨ad,rfl⟩
    | none=>
     have h1:=(S.mem.fact (GlF none xs)).now.1.1 rfl
     have h2:=congrArg List.length h1
     rw[encL_len]at h2
     have h3:xs.length*1=0:=h2
     omega
   have hN8b:LenN (blockF h (xs.take 64)) 8:=⟨blockF_len _ _⟩
   replace S:=S.add (Φ:=BlkF ad bl) ((S.mem.fact (GlF (some ad) xs)).imp fun _ h j v hj=>h.1.2 ad rfl j v (by
    rw[hbl1,show encL (xs.take 64)=(encL xs).take (64*1) from (encL_take xs 64).symm,List.getElem?_take]at hj
    split at hj
    ·exact hj
    ·cases hj))
   refine' c_drawT0 (.q 1 (.q 2 (.q 3 (.l 0 (.l 4 (.l 5 (.e))))))) [b3] S ?_ ?_
   rotate_left 3
   ·intro w S
    (iterate 3 (refine tq S ?_;clear S;intro a S));refine tl (sq S ?_);clear S;intro a S;refine te S ?_;refine tl ?_;refine sr S (block_c h bl hh8 _) ?_;clear S;rintro _ a w rfl S
    rw[hbl1]at S
    refine te S ?_;refine tl (sw S ?_);clear S;intro a w S;refine te S ?_;refine tn ?_
    exact S
   intro  a w S
   refine xbn (xtn (kR ?_));(iterate 3 (refine sq S ?_;clear S;intro a S));refine kN (xtn ?_)
   replace S:=S.add (Φ:=GlF (if e=64 then some ad else (some ad).map (·.add (64*1))) (xs.drop 64)) ((S.mem.fact (GlF (some ad) xs)).imp fun _ h=>h.drop 64 hxe)
   rw[show xs.length - 64=(xs.drop 64).length from List.length_drop.symm]at S
   refine ⟨blockF h (xs.take 64),xs.drop 64,(if e=64 then some ad else (some ad).map (·.add (64*1))),e - 64,S.uu,⟨blockF_len _ _,by rw[List.length_drop];omega,by rw[List.length_drop];omega,blockF_u32 _ _,?_⟩,S.sub _ _,by rw[List.length_drop];omega⟩
   rw[←hbl,List.length_drop,show xs.length / 64=(xs.length - 64) / 64+1 from by omega,blocksF]
  ·refine kE (xte (xte (xbe (xtn (kS ?_)))))
   have hx0:xs.length=0:=by have:=of_decide_eq_false h3;omega
   have hhf:h=blocksF ((padF bs).length / 64) shaH (padF bs):=by rw[←hbl,hx0];rfl
   have hN8:LenN h 8:=⟨hh8⟩
   replace S:=S.addNil 5 1
   refine kR (sq S ?_);clear S;intro a S;refine kN (xtn (kS (kS (kR (sq S ?_)))));clear S;intro a S;refine kN (xtn (kB ?_))
   refine c_fore4 S (fun(i:Nat) (out:List UInt8) (q2:Option Addr) (e2:Nat) uu=>[(5,.slice q2 out.length e2),(0,uu 6),(13,.int .i64 (i:Nat)),(0,uu 21),(0,uu 22),(0,uu 23),(0,uu 24),(0,uu 25),(0,uu 26),(0,uu 27),(0,uu 28)]) (fun(i:Nat) (out:List UInt8) (q2:Option Addr) (e2:Nat)=>[Wk.row 5 1 q2 out.length e2 (encL out),Wk.box b3 313 (u32s h),Wk.box b2 296 (encL (List.replicate 32 (0:UInt8)))]) (fun(i:Nat) (out:List UInt8) (q2:Option Addr) (e2:Nat)=>[]) (fun(i:Nat) (out:List UInt8) (q2:Option Addr) (e2:Nat)=>i≤8∧out=outF h i) (fun(i:Nat) (out:List UInt8) (q2:Option Addr) (e2:Nat)=>8 - i) (0) ([]) (none) (0) ?_ S.uu ?_ ?_
   ·exact ⟨by omega,rfl⟩
   ·exact S.sub [Wk.row 5 1 none 0 0 [],Wk.box b3 313 (u32s h),Wk.box b2 296 (encL (List.replicate 32 (0:UInt8)))] []
   ·clear S;rintro i out q2 e2 uu a w ⟨hi,hout⟩ S
    refine kS (kR (sq S ?_));clear S;intro a S;refine kN (xtn (kS ?_))
    refine kC S (fun h8=>?_) (fun h8=>?_)
    ·refine kK (xtn (kS (kB (kS ?_))))
     have hi8:i < 8:=by simp at h8;omega
     have hKi:KLt i 8:=⟨hi8⟩
     have hKi2:KLt i h.length:=⟨by omega⟩
     have hol:out.length=4*i:=by rw[hout,outF_len]
     have hui:0≤nthI h i∧nthI h i≤4294967295:=by
      have h1:=nthI_get (ys:=h) (k:=i) (by omega)
      exact hhu _ (List.mem_of_getElem? h1)
     refine kR ?_;(iterate 2 (refine sq S ?_;clear S;intro a S));refine kN (xtn (kR ?_));(iterate 4 (refine sq S ?_;clear S;intro a S))
     refine srn S (put32_c q2 out.length e2 out (nthI h i) _ rfl (by omega) hui.1 hui.2 ((own_sl (S.row q2 out.length)).stable (fun _ _ h=>h))) ?_;clear S;rintro _ a w ⟨g2,rfl,hg2,hown⟩ hS -
     have S:=hS hown (fun ad h=>by cases h;exact hg2)
     clear hS
     rw[show out.length+4=(out++be 4 (nthI h i)).length from by rw[List.length_append,be_len]]at S
     refine sq S ?_;clear S;intro a S;refine kN (xbn (xtn (kR ?_)));(iterate 2 (refine sq S ?_;clear S;intro a S));refine kN (xtn ?_)
     rw[w64 ((i:Int)+1) (by omega) (by omega)]at S
     exact ⟨i+1,out++be 4 (nthI h i),some ⟨g2,0,none⟩,(out++be 4 (nthI h i)).length,S.uu,⟨by omega,by rw[outF_succ,hout]⟩,S.sub _ _,by omega⟩
    ·refine kE (xte (xte (xbe (xtn (kS ?_)))))
     have hi8:i=8:=by simp at h8;omega
     have hol:out.length=32:=by rw[hout,hi8,outF_len]
     have hLe:LeC 32 out.length:=⟨by omega⟩
     have hlen:LenIs (encL out) 32:=⟨by rw[encL_len,hol];rfl⟩
     have hsf:SetFront (encL (List.replicate 32 (0:UInt8))) (encL out) (encL out):=⟨by rw[encL_len,encL_len,hol];exact Nat.le_refl _,by rw[List.drop_of_length_le (by rw[encL_len,encL_len,hol];exact Nat.le_refl _),List.append_nil]⟩
     obtain ⟨g3,cur,hq2,-⟩:=own_cells (S.row q2 out.length) (show 0 < out.length by omega)
     subst hq2
     refine kR ?_;(iterate 2 (refine sq S ?_;clear S;intro a S))
     refine slA (encL out) S (fun j v hj=>?_) ?_
     ·have:=own_cell (S.row (some ⟨g3,0,none⟩) out.length) (o:=0) (j:=j) (u:=v) (by rw[Nat.zero_add];exact hj)
      rw[rAddr,Option.getD_some,add_lit]at this
      exact this
     clear S;intro a S;refine sw S ?_;clear S;intro a w S;refine kN (xtn (kT ?_))
     refine end1 S (fun _=>?_)
     rw[hout,hi8,hhf];rfl
structure LRow where
 name:List UInt8
 term:LTerm
instance encRow:Enc LRow:=⟨6,fun r=>str r.name::r.term.cells,fun _=>rfl,fun x u hu=>by
 rcases List.mem_cons.1 hu with rfl | hu
 rfl
 exact encT.one x.term u hu⟩
instance layRow:Lay LRow:={ encRow with
 dflt:=⟨[],zeroL⟩
 inn:=fun w r=>LtIn w r.term
 mono:=fun _w _w' x h hx=>LtIn.mono h x.term hx }
def LRow.r (x:LRow):PRow:=⟨x.name,x.term.t⟩
structure AtP (l:List LRow) (s:List UInt8) (i:Nat) (b:Bool):Prop where
 le:i≤l.length
 lo:∀ m,m < i→Op.bytesLess (nthG l m).name s=true
 hi:∀ m,i≤m→m < l.length→Op.bytesLess (nthG l m).name s=false
 there:b=(decide ((i:Int) < (l.length:Int))&&decide ((nthG l i).name=s))
end Go.Proofs.YtdakncgafdnjfaaGreat
namespace Go.Wk
open Go
section
variable {P:Program} {r:Option Nat} {ops:Array Oper} {Q:Exit→Act→World→Prop} {w0:World} {M0:Nat→Prop} {ds:List Deferred} {a:Act} {w:World} {l:List Value} {bs:List Item} {fs:List (World→Prop)}
 {d:Option Nat} {ty t tx e:TypeId} {pos:String} {af:Array Edge} {rest:List Oper} {x y:Operand} {by_ c sz m:Nat} {z:Value}
theorem sapG (ad:Addr) (n:Nat) (olds:List Value) {xv:Value} {news:List Value} {l':Nat→Nat→List Value} (S:St w0 M0 ds a w l bs fs)
  [Ev ⟨[],l⟩ x (.slice (some ad) n c)] [Ev ⟨[],l⟩ y xv] [ht:Und P t (.slice e)] [hti:TI P e z sz by_] {zc:List Value} [hzc:Cells z zc] [hzl:LenIs zc sz] [hs:SrcV P tx xv bs fs sz m news]
  [hp:∀ g c',PutO l d (.slice (some ⟨g,0,none⟩) (n+m) c') (l' g c')] (hl:olds.length=n*sz) (hold:∀ j u,olds[j]? = some u→w.cell? (ad.add j)=some u) (hg:c < n+m)
  (h63:n+m≤maxLen) (hb:(n+m)*by_≤140737488355328)
  (K:∀ g c' a w,St w0 M0 ds a w (l' g c') (row e sz (some ⟨g,0,none⟩) (n+m) c' (olds++news)::bs) fs→WL P r ops Q rest a w) :
  WL P r ops Q (⟨d,.call { callee:=.builtin .append,args:=#[x,y],argTypes:=#[t,tx] },ty,pos,af,none⟩::rest) a w:=by
 refine wl_plain rfl ?_
 rw[semAt_nd rfl]
 obtain ⟨ii,hi,hz',hsize,hby⟩:=hti.ex
 subst hsize hby
 have hsrc:=hs.src w S.wd.mem
 have hr:=run_append_grow_src (P:=P) w t tx ty e ii z ht.eq hi hz' (some ad) n c olds (by
  have:=run_firstCells_some (P:=P) w.drew ii.size n ad n c olds hl (fun j u hu=>by simpa using hold j u hu)
  simpa using this) xv m news hsrc hg (by simp only[maxLen]at h63;omega) (growslice_fits hg hb)
 have hlen:(olds++news).length=(n+m)*ii.size:=by rw[List.length_append,hl,hsrc.newsLen,Nat.add_mul]
 have hzs:z.cells.size=ii.size:=by rw[←Array.length_toList,hzc.eq,hzl.eq]
 have hown:(w.drew.alloc (.cells ((olds++news).toArray++Builtin.zeroCells z.cells (grownCap w (n+m) c e - (n+m))) e)).ownsRow 0 e ii.size (.slice (some ⟨w.heap.size,0,none⟩) (n+m) (grownCap w (n+m) c e)) (n+m) (olds++news):=by
  refine ⟨hlen,.inr ⟨w.heap.size,_,_,rfl,Nat.zero_le _,heap_alloc_new w.drew _,grownCap_ge _ _ _ _,grownCap_le_maxLen w (n+m) c e h63,?_,?_⟩⟩
  have:=grownCap_ge w (n+m) c e
  rw[Array.size_append,size_zeroCells,hzs,List.size_toArray,hlen,←Nat.add_mul]
  congr 1;omega
  rw[←hlen,Array.toList_append]
  exact List.take_left
 have hag:Agree (fun _=>False) w (w.drew.alloc (.cells ((olds++news).toArray++Builtin.zeroCells z.cells (grownCap w (n+m) c e - (n+m))) e)):=(Agree.drawn _ w _).trans (Agree.alloc _ w.drew _)
 generalize w.drew.alloc (.cells ((olds++news).toArray++Builtin.zeroCells z.cells (grownCap w (n+m) c e - (n+m))) e)=w' at hr hown hag
 generalize grownCap w (n+m) c e=c' at hr hown
 have e1:(xop a.eval (.call { callee:=.builtin .append,args:=#[x,y],argTypes:=#[t,tx] }) ty).run P w=.ok (.value (.slice (some ⟨w.heap.size,0,none⟩) (n+m) c')) w':=by
  simp[xop,execOp,resolve,invoke,builtin,S.fr.ev (x:=x) (v:=.slice (some ad) n c),S.fr.ev (x:=y) (v:=xv),hr]
 simp only[e1,Oper.uponIn]
 have:=hp w.heap.size c'
 have S':=S.put (d:=d) (v:=.slice (some ⟨w.heap.size,0,none⟩) (n+m) c')
 exact K w.heap.size c' _ w' ⟨S'.slots,S'.defers,S'.wd.addRow hag hown (fun ad h=>by cases h;exact Nat.le_refl _)⟩
theorem scpB (b n m:Nat) {T:TypeId} {cs:List Value} (ys:List UInt8) {q:Option Addr} {cd cy:Nat} {bs':List Item} {l':List Value} (S:St w0 M0 ds a w l bs fs) [Ev ⟨[],l⟩ x (.slice (some ⟨b,0,none⟩) n cd)] [Ev ⟨[],l⟩ y (.slice q m cy)] [ht:Und P t (.slice e)] [hti:TI P e z 1 by_] [HasBox bs b T cs]
  [hrep:ReplI bs (box b T cs) (box b T ((encL ys).take n++cs.drop m)) bs'] [hp:PutO l d (.int .i64 ((min m n:Nat):Int)) l'] (hq:SlF q (encL ys) w) (hy:ys.length=m) (hc:cs.length=n) (K:∀ a w,St w0 M0 ds a w l' bs' fs→WL P r ops Q rest a w) :
  WL P r ops Q (⟨d,.call { callee:=.builtin .copy,args:=#[x,y],argTypes:=#[t,tx] },ty,pos,af,none⟩::rest) a w:=by
 refine wl_plain rfl ?_
 rw[semAt_nd rfl]
 have hb:=S.box b
 have S':=S.put (d:=d) (v:=.int .i64 ((min m n:Nat):Int)) (l':=l')
 have hel:(encL ys).length=m:=by rw[encL_len,hy];exact Nat.mul_one _
 have hnl:((encL ys).take (min m n)).length=min m n:=by rw[List.length_take,hel];omega
 have hcells:(Builtin.firstCells 1 (min m n) (.slice q m cy)).run P w=.ok ((encL ys).take (min m n)).toArray w:=by
  cases hqq:q with
  | none=>
   have h1:=hq.1 hqq
   have h2:m=0:=by rw[←hel,h1];rfl
   subst h2
   rw[h1,Nat.zero_min]
   exact run_firstCells_none w 1 0 0 cy
  | some ad=>
   refine run_firstCells_some w 1 (min m n) ad m cy _ (by rw[hnl,Nat.mul_one]) (fun j u hj=>hq.2 ad hqq j u ?_)
   rw[List.getElem?_take]at hj
   split at hj
   exact hj
   cases hj
 have hst:=run_storeCells_at (P:=P) b 0 T ((encL ys).take (min m n)) 0 cs.toArray w hb (by rw[hnl];simp[hc];omega) (fun u hu=>encL_one ys u (List.mem_of_mem_take hu))
 have e0:(cs.toArray.toList.take 0++(encL ys).take (min m n)++cs.toArray.toList.drop (0+((encL ys).take (min m n)).length))=(encL ys).take n++cs.drop m:=by
  rw[hnl]
  rcases Nat.le_total m n with h | h
  rw[Nat.min_eq_left h,List.take_of_length_le (by omega:(encL ys).length≤m),List.take_of_length_le (by omega:(encL ys).length≤n)];simp
  rw[Nat.min_eq_right h];simp;omega
 simp only[Nat.zero_add]at hst e0
 rw[e0]at hst
 have hrun:(Builtin.copy_ #[t,tx] ty #[.slice (some ⟨b,0,none⟩) n cd,.slice q m cy]).run P w=.ok (.int .i64 ((min m n:Nat):Int)) (w.setRow b ((encL ys).take n++cs.drop m).toArray):=by
  have h1:(storeCells ⟨b,0,none⟩ ((encL ys).take (min m n))).run P w=.ok () (w.setRow b ((encL ys).take n++cs.drop m).toArray):=by simpa using hst
  have h2:Nat.min m n=min m n:=rfl
  simp[Builtin.copy_,Sem.run_bind,run_und,run_size,Builtin.lenOf,h2,hcells,h1,goInt]
 have e1:(xop a.eval (.call { callee:=.builtin .copy,args:=#[x,y],argTypes:=#[t,tx] }) ty).run P w=.ok (.value (.int .i64 ((min m n:Nat):Int))) (w.setRow b ((encL ys).take n++cs.drop m).toArray):=by
  simp[xop,execOp,resolve,invoke,builtin,S.fr.ev (x:=x) (v:=.slice (some ⟨b,0,none⟩) n cd),S.fr.ev (x:=y) (v:=.slice q m cy),hrun]
 simp only[e1,Oper.uponIn]
 have hh:(box b T ((encL ys).take n++cs.drop m)).holds (w.setRow b ((encL ys).take n++cs.drop m).toArray):=setRow_heap w b cs.toArray _ T _ hb
 exact K _ _ (S.reput (x:=box b T cs) (y:=box b T ((encL ys).take n++cs.drop m)) S'.slots S'.defers rfl (Agree.setRow w b _ rfl) hh (fun k h=>.inl h) (ItOk.lt _ hh) ItOk.loc)
end
theorem run_idx {P:Program} {ty t e:TypeId} {l:Cx} {x y:Operand} {n:Nat} {kk:IntKind} {z:Value} {by_:Nat} {ρ:Operand→Value} (vs:List Value) (k:Nat) (v:Value) [Ev l x (.agg ⟨vs⟩)] [Ev l y (.int kk (k:Int))] [ht:Und P t (.array n e)] [hti:TI P e z 1 by_] [ha:AggT P e false] (hv:vs[k]? = some v) (hn:vs.length=n) (h:Fr ρ l) (w:World) :
  (xop ρ (.index t x y) ty).run P w=.ok (.value v) w:=by
 have hlt:k < vs.length:=(List.getElem?_eq_some_iff.1 hv).1
 have e2:(⟨vs⟩:Array Value)[k]? = some v:=by simpa using hv
 have e3:k < (⟨vs⟩:Array Value).size:=hlt
 simp[xop,execOp,h.ev (x:=x) (v:=.agg ⟨vs⟩),h.ev (x:=y) (v:=.int kk (k:Int)),Instr.index,asIntOf,Sem.run_bind,run_und,run_size,part,ha.run]
 rw[if_pos (by rw[←hn];exact hlt),hv]
 rfl
theorem run_eqItemsB {P:Program} (d:Nat) {e:TypeId} (he:P.underlying e=some (.int .u8)) [ha:AggT P e false] (w:World) (x y:List UInt8):∀ is:List Nat,(∀ i∈is,i < x.length∧i < y.length)→
  (Op.eqItems (d+1) e 1 ⟨encL x⟩ ⟨encL y⟩ is).run P w=.ok (is.all fun i=>decide (x[i]? = y[i]?)) w
 | [],_=>by simp[Op.eqItems]
 | i::is,h=>by
  have h0:=h i (List.mem_cons_self ..)
  have ih:=run_eqItemsB d he w x y is (fun j hj=>h j (List.mem_cons_of_mem _ hj))
  have ex:∀ (z:List UInt8) (hz:i < z.length),(part e ⟨encL z⟩ (i*1)).run P w=.ok (.int .u8 (z[i].toNat:Int)) w:=fun z hz=>by
   have h1:(encL z)[i]? = some (.int .u8 (z[i].toNat:Int)):=by
    have h2:=encL_get z i z[i] (List.getElem?_eq_getElem hz) 0 (by decide)
    have h3:i*Enc.sz UInt8+0=i:=Nat.mul_one i
    rw[h3]at h2
    rw[h2];rfl
   have h2:(⟨encL z⟩:Array Value)[i]? = some (.int .u8 (z[i].toNat:Int)):=by simpa using h1
   have h3:i < (encL z).length:=(List.getElem?_eq_some_iff.1 h1).1
   simp[part,Sem.run_bind,ha.run,h2]
   done
  have eq:(Op.equalIn (d+1) e (.int .u8 (x[i].toNat:Int)) (.int .u8 (y[i].toNat:Int))).run P w=.ok ((x[i].toNat:Int) == (y[i].toNat:Int)) w:=run_equalIn_int w d e .u8 .u8 _ _ he
  have hb:((x[i].toNat:Int) == (y[i].toNat:Int))=decide (x[i]? = y[i]?):=by
   rw[List.getElem?_eq_getElem h0.1,List.getElem?_eq_getElem h0.2,Bool.eq_iff_iff]
   simp only[beq_iff_eq,decide_eq_true_eq,Option.some.injEq]
   exact ⟨fun h=>UInt8.toNat.inj (Int.ofNat.inj h),fun h=>by rw[h]⟩
  simp only[Op.eqItems,Sem.run_bind,ex x h0.1,ex y h0.2,eq,Result.andThen_ok,List.all_cons,hb]
  cases h5:decide (x[i]? = y[i]?) with
  | false=>simp
  | true=>simp[ih]
theorem blk_len (u:Blk):u.l.length=64:=by
 have h:=u.len
 rw[encL_len]at h
 exact (Nat.mul_one _).symm.trans h
class EqG (P:Program) (t:TypeId):Prop where eq:P.eqGuardType P.depth t=false
theorem run_eqB {P:Program} (w:World) {t e:TypeId} {n by_:Nat} {z:Value} (x y:List UInt8) (hu:P.underlying t=some (.array n e)) (he:P.underlying e=some (.int .u8)) [ha:AggT P e false] [hti:TI P e z 1 by_] (hx:x.length=n) (hy:y.length=n) :
  (Op.equalIn 10000 t (.agg ⟨encL x⟩) (.agg ⟨encL y⟩)).run P w=.ok (decide (x=y)) w:=by
 obtain ⟨ii,hi,hz,hs,hb⟩:=hti.ex
 have hc:P.cellsOf e=1:=by simp[Program.cellsOf,hi,hs]
 rw[show (10000:Nat)=9999+1 from rfl,run_equalIn_array w 9999 _ _ hu hi,hc,run_eqItemsB 9998 he w x y _ (fun i hi=>by rw[List.mem_range]at hi;omega)]
 congr 1
 rw[Bool.eq_iff_iff,List.all_eq_true]
 simp only[List.mem_range,decide_eq_true_eq]
 exact ⟨fun h=>List.ext_getElem? fun i=>by
  rcases Nat.lt_or_ge i n with h1 | h1
  exact h i h1
  rw[List.getElem?_eq_none (by omega),List.getElem?_eq_none (by omega)],fun h i _=>by rw[h]⟩
instance opBlkEql {P:Program} {l:Cx} {bs:List Item} {fs:List (World→Prop)} {x y:Operand} {t t' ty e:TypeId} {u v:Blk} {z:Value} {by_:Nat} [Ev l x (.agg ⟨encL u.l⟩)] [Ev l y (.agg ⟨encL v.l⟩)] [ht:Und P t (.array 64 e)] [he:Und P e (.int .u8)] [AggT P e false] [TI P e z 1 by_] [hg:EqG P t] :
  OpQ P (.binOp .eql t x y t') ty l bs fs (.bool (decide (u.l=v.l))):=⟨fun ρ w h _=>by
 simp[xop,execOp,h.ev (x:=x) (v:=.agg ⟨encL u.l⟩),h.ev (x:=y) (v:=.agg ⟨encL v.l⟩),Sem.run_bind,run_eqGuard_agg w .eql t x y _ _ hg.eq,run_eql_struct,run_eqB w u.l v.l ht.eq he.eq (blk_len u) (blk_len v)]⟩
instance opBlkNeq {P:Program} {l:Cx} {bs:List Item} {fs:List (World→Prop)} {x y:Operand} {t t' ty e:TypeId} {u v:Blk} {z:Value} {by_:Nat} [Ev l x (.agg ⟨encL u.l⟩)] [Ev l y (.agg ⟨encL v.l⟩)] [ht:Und P t (.array 64 e)] [he:Und P e (.int .u8)] [AggT P e false] [TI P e z 1 by_] [hg:EqG P t] :
  OpQ P (.binOp .neq t x y t') ty l bs fs (.bool (!decide (u.l=v.l))):=⟨fun ρ w h _=>by
 simp[xop,execOp,h.ev (x:=x) (v:=.agg ⟨encL u.l⟩),h.ev (x:=y) (v:=.agg ⟨encL v.l⟩),Sem.run_bind,run_eqGuard_agg w .neq t x y _ _ hg.eq,run_neq_struct,run_eqB w u.l v.l ht.eq he.eq (blk_len u) (blk_len v)]⟩
instance nz48:NZ 48:=⟨by decide⟩
end Go.Wk
namespace Go.Proofs.YtdakncgafdnjfaaGreat
open Go Go.Wk
set_option synthInstance.maxSize 100000
set_option synthInstance.maxHeartbeats 400000
set_option maxRecDepth 100000
def blkOf (l:List UInt8):Blk:=if h:l.length=64 then ⟨l,h⟩ else zB
theorem blkOf_l {l:List UInt8} (h:l.length=64):(blkOf l).l=l:=by rw[blkOf,dif_pos h]
def sealF (bs:List UInt8):Blk:=blkOf ((shaF bs).drop 28++bs)
theorem sealF_l {bs:List UInt8} (h:bs.length=60):(sealF bs).l=(shaF bs).drop 28++bs:=blkOf_l (by rw[List.length_append,List.length_drop,shaF_len,h])
theorem sealed_c (bs:List UInt8) (p:Option Addr) (c:Nat) (w0:World) (hn:bs.length=60) (hx:Stable (fun _=>False) w0 (SlF p (encL bs))) :
  Ret Tryz.prog 178 [.slice p 60 c] w0 (fun _=>False) fun r _=>r=vBlk (sealF bs):=by
 have hLN:LenN bs 60:=⟨hn⟩
 have hsl:=shaF_len bs
 have hS32:LenN (shaF bs) 32:=⟨hsl⟩
 have hlen:LenIs (encL (shaF bs)) 32:=⟨by rw[encL_len,hsl];rfl⟩
 have hle1:LeC 28 32:=⟨by omega⟩
 have hle2:LeC 32 32:=⟨by omega⟩
 have hsf:SetFront (encL (List.replicate 32 (0:UInt8))) (encL (shaF bs)) (encL (shaF bs)):=⟨by rw[encL_len,encL_len,hsl];exact Nat.le_refl _,by rw[List.drop_of_length_le (by rw[encL_len,encL_len,hsl];exact Nat.le_refl _),List.append_nil]⟩
 refine enter Tryz.func178 rfl rfl (Wd.begin (fs:=[SlF p (encL bs)]) (by simpa using hx)) (fun a S=>?_)
 simp only[Tryz.ntmps178,qqA,qqB,Nat.reduceAdd,Nat.reduceSub,qqC,qqD,qqE,qqF]at S
 refine kS (kR ?_);refine sa S ?_;clear S;intro b2 a w S;refine kN (xtn (kS (kR (sq S ?_))));clear S;intro a S
 refine sr S (sum_c bs p 60 c _ hn (by omega) ((S.fact (Φ:=SlF p (encL bs)) (by simp)).less fun _ _ h=>h.elim)) ?_;clear S;rintro _ a w rfl S
 refine sa S ?_;clear S;intro b3 a w S;refine sw S ?_;clear S;intro a w S;refine kN (xtn (kS (kR ?_)));(iterate 2 (refine sq S ?_;clear S;intro a S))
 have hb:=S.box b3
 refine sapG ⟨b3,28,none⟩ 4 ((encL (shaF bs)).drop 28) S (by rw[List.length_drop,encL_len,hsl];rfl) (fun j u hj=>?_) (by omega) (by simp only[maxLen];omega) (by omega) ?_
 rw[Addr.add_lit,cell_of_row _ b3 _ _ _ _ hb]
 rw[List.getElem?_drop]at hj
 simpa using hj
 clear S;intro g c' a w S
 rw[show (encL (shaF bs)).drop 28=encL ((shaF bs).drop 28) from (encL_dropG (shaF bs) 28).symm,←encL_append,←sealF_l hn]at S
 have hrow:=S.row (some ⟨g,0,none⟩) (4+60)
 replace S:=S.rowToGl (some ⟨g,0,none⟩) (sealF bs).l (e:=5) (sz:=1) (n:=4+60) (c:=c') (fun _ _ _ _=>trivial)
 replace S:=S.add (Φ:=BlkF ⟨g,0,none⟩ (sealF bs)) ((S.mem.fact (GlF (some ⟨g,0,none⟩) (sealF bs).l)).imp fun _ h j v hj=>h.1.2 _ rfl j v hj)
 have hle3:LeC 64 (4+60):=⟨by omega⟩
 (iterate 2 (refine sq S ?_;clear S;intro a S));refine sw S ?_;clear S;intro a w S;refine kN (xtn (kT ?_))
 refine end1 S (fun _=>?_)
 rfl
theorem wu32 (n:Int) (h1:0≤n) (h2:n≤4294967295):IntKind.u32.wrap n=n:=by
 unfold IntKind.wrap;simp only[IntKind.bits,IntKind.signed];simp;omega
theorem slNil (M:Nat→Prop) (w:World):Stable M w (SlF none (encL ([]:List UInt8))):=fun _ _=>⟨fun _=>rfl,fun _ h=>by cases h⟩
def safeS:List UInt8:=[83,65,70,69,72,79,85,83,69]
def titleB (turn n:Int):List UInt8:=be 4 n++be 4 turn++safeS++List.replicate 43 0
theorem titleB_len (turn n:Int):(titleB turn n).length=60:=by simp[titleB,be_len,safeS]
def titleF (turn n:Int):Blk:=sealF (titleB turn n)
theorem title_c (turn n:Int) (ht:0≤turn∧turn≤4294967295) (hn:0≤n∧n≤4294967295) (w0:World):Ret Tryz.prog 176 [.int .u32 turn,.int .i64 n] w0 (fun _=>False) fun r _=>r=vBlk (titleF turn n):=by
 refine enter Tryz.func176 rfl rfl (Wd.start w0) (fun a S=>?_)
 simp only[Tryz.ntmps176,qqA,qqB,Nat.reduceAdd,Nat.reduceSub,qqC,qqD,qqE,qqF]at S
 refine kS (kR ?_);refine sa S ?_;clear S;intro b4 a w S;refine kN (xtn (kS (kR ?_)));(iterate 2 (refine sq S ?_;clear S;intro a S))
 rw[wu32 n (by omega) (by omega)]at S
 refine srn S (put32_c none 0 0 [] n _ rfl (by omega) hn.1 hn.2 (slNil _ _)) ?_;clear S;rintro _ a w ⟨g,rfl,hg,hown⟩ hS -
 have S:=hS hown (fun ad h=>by cases h;exact hg)
 clear hS
 rw[qqF]at S
 refine sq S ?_;clear S;intro a S
 refine srn S (put32_c (some ⟨g,0,none⟩) (0+4) (0+4) (be 4 n) turn _ (be_len _ _) (by omega) ht.1 ht.2 ((own_sl (S.row (some ⟨g,0,none⟩) (0+4))).stable (fun _ _ h=>h))) ?_;clear S;rintro _ a w ⟨g2,rfl,hg2,hown2⟩ hS -
 have S:=hS hown2 (fun ad h=>by cases h;exact hg2)
 clear hS
 refine sq S ?_;clear S;intro a S;refine kN (xtn (kS (kR (sq S ?_))));clear S;intro a S
 refine sap S (by simp only[maxLen];simp) (by simp) ?_;clear S;rintro p3 c3 a w - S
 refine sapz1 p3 (0+4+4+9) (m:=43) S (by omega) (by simp only[maxLen];omega) (by omega) ?_;clear S;intro p4 c4 a w S
 rw[←encL_append]at S
 refine sr S (sealed_c (titleB turn n) p4 c4 _ (titleB_len turn n) ((own_sl (S.row p4 60)).stable (fun _ _ h=>h))) ?_;clear S;rintro _ a w rfl S
 refine sw S ?_;clear S;intro a w S;refine kN (xtn (kT ?_))
 refine end1 S (fun _=>?_)
 rfl
theorem encZ_drop (n m:Nat):(encL (List.replicate n (0:UInt8))).drop m=encL (List.replicate (n - m) (0:UInt8)):=by
 have h:=encL_dropG (List.replicate n (0:UInt8)) m
 rw[List.drop_replicate,show m*Enc.sz UInt8=m from Nat.mul_one m]at h
 exact h.symm
def secN (n:Nat):Nat:=if n=0 then 1 else (n+47) / 48
def pad48 (l:List UInt8):List UInt8:=l.take 48++List.replicate (48 - l.length) 0
theorem pad48_len (l:List UInt8):(pad48 l).length=48:=by simp[pad48];omega
def leafB (turn number:Int) (n:Nat) (left:List UInt8):List UInt8:=be 4 turn++be 4 number++be 2 (n:Int)++be 2 (left.length:Int)++pad48 left
theorem leafB_len (turn number:Int) (n:Nat) (left:List UInt8):(leafB turn number n left).length=60:=by simp[leafB,be_len,pad48_len]
def leafF (turn number:Int) (bs:List UInt8) (k:Nat):Blk:=sealF (leafB turn number bs.length (bs.drop (48*k)))
def leavesF (turn number:Int) (bs:List UInt8):List Blk:=(List.range (secN bs.length)).map (leafF turn number bs)
theorem leavesF_len (turn number:Int) (bs:List UInt8):(leavesF turn number bs).length=secN bs.length:=by simp[leavesF]
def leavesV (g0 g1 g2:Nat):Value:=.func (.func 177) #[] ⟨[.pointer (some ⟨g0,0,none⟩),.pointer (some ⟨g1,0,none⟩),.pointer (some ⟨g2,0,none⟩)]⟩
theorem leaves_f (turn number:Int) (p:Option Addr) (n c:Nat) (w0:World):Ret Tryz.prog 82 [.int .u32 turn,.int .u32 number,.slice p n c] w0 (fun _=>False) fun v w'=>∃ g0 g1 g2,v=leavesV g0 g1 g2∧(w0.heap.size≤g0∧w0.heap.size≤g1∧w0.heap.size≤g2)∧BoxF g0 25 [.slice p n c] w'∧BoxF g1 130 [.int .u32 turn] w'∧BoxF g2 130 [.int .u32 number] w':=by
 refine enter Tryz.func82 rfl rfl (Wd.start w0) (fun a S=>?_)
 simp only[Tryz.ntmps82,qqA,qqB,Nat.reduceAdd,Nat.reduceSub,qqC,qqD,qqE,qqF]at S
 refine kS (kR ?_);refine sa S ?_;clear S;intro b3 a w S;refine sa S ?_;clear S;intro b4 a w S;refine sa S ?_;clear S;intro b5 a w S;refine sq S ?_;clear S;intro a S;refine kN (xtn (kS (kR ?_)));(iterate 2 (refine sq S ?_;clear S;intro a S));refine kN (xtn (kT ?_))
 have h3:=(S.boxNew b3).elim (fun h=>h.elim) id
 have h4:=(S.boxNew b4).elim (fun h=>h.elim) id
 have h5:=(S.boxNew b5).elim (fun h=>h.elim) id
 have e3:=S.boxF b3
 have e4:=S.boxF b4
 have e5:=S.boxF b5
 exact end1 S (fun _=>⟨b5,b3,b4,rfl,⟨h5,h3,h4⟩,e5,e3,e4⟩)
theorem leaves_it (turn number:Int) (ht:0≤turn∧turn≤4294967295) (hnu:0≤number∧number≤4294967295) (g0 g1 g2:Nat) (bs:List UInt8) (p:Option Addr) (c:Nat) (hl:bs.length≤40000) (hc:bs.length≤c) (w0:World) (M:Nat→Prop) (hM:∀ k,M k→k < w0.heap.size) (f0:Stable M w0 (BoxF g0 25 [.slice p bs.length c])) (f1:Stable M w0 (BoxF g1 130 [.int .u32 turn])) (f2:Stable M w0 (BoxF g2 130 [.int .u32 number])) (f3:Stable M w0 (GlF p bs)) :
  IterRet Tryz.prog 177 [.pointer (some ⟨g0,0,none⟩),.pointer (some ⟨g1,0,none⟩),.pointer (some ⟨g2,0,none⟩)] w0 M (fun(x:Blk) vs _ _=>vs=[vBlk x]) (leavesF turn number bs):=by
 intro L J Jx hy hJ
 have hF:∀ Φ∈[GlF p bs,BoxF g0 25 [.slice p bs.length c],BoxF g1 130 [.int .u32 turn],BoxF g2 130 [.int .u32 number]],Stable M w0 Φ:=by simp;exact ⟨f3,f0,f1,f2⟩
 have hs0:0 < secN bs.length:=by unfold secN;split <;> omega
 refine (callsIn_wide (n:=0)).2 ?_
 refine enter Tryz.func177 rfl rfl (Wd.beginM (M:=M) (fs:=[GlF p bs,BoxF g0 25 [.slice p bs.length c],BoxF g1 130 [.int .u32 turn],BoxF g2 130 [.int .u32 number]]) hM hF) (fun a S=>?_)
 simp only[Tryz.ntmps177,qqA,qqB,Nat.reduceAdd,Nat.reduceSub,qqC,qqD,qqE,qqF]at S
 refine kS (kR ?_);(iterate 2 (refine sq S ?_;clear S;intro a S));refine kN (xtn (kB ?_))
 refine c_loop (ι:=Nat × Option Addr × Nat) (fun⟨k,q,e⟩ a w=>(k < secN bs.length∧(bs.drop (48*k)).length≤e∧Stable M w0 (GlF q (bs.drop (48*k))))∧∃ N w1,J k w1∧∃ uu:Nat→Value,St w1 (fun _=>False) [] a w ((.func (.yield L) #[] #[])::(.pointer (some ⟨g0,0,none⟩))::(.pointer (some ⟨g1,0,none⟩))::(.pointer (some ⟨g2,0,none⟩))::uu 4::(.slice q (bs.drop (48*k)).length e)::uu 6::uu 7::uu 8::uu 9::uu 10::uu 11::uu 12::uu 13::uu 14::uu 15::uu 16::uu 17::uu 18::uu 19::uu 20::uu 21::uu 22::uu 23::uu 24::uu 25::uu 26::uu 27::uu 28::uu 29::uu 30::uu 31::uu 32::uu 33::uu 34::uu 35::uu 36::uu 37::uu 38::[]) [ext N] [GlF q (bs.drop (48*k)),BoxF g0 25 [.slice p bs.length c],BoxF g1 130 [.int .u32 turn],BoxF g2 130 [.int .u32 number]]) (fun x=>secN bs.length - x.1) (0,p,c) ?_ ?_
 exact ⟨⟨hs0,by simpa using hc,by simpa using f3⟩,M,w0,hJ,S.uu,by rw[show bs.drop (48*0)=bs from rfl];exact S⟩
 clear S
 rintro ⟨k,q,e⟩ a w ⟨⟨hk,hqe,hq⟩,N,w1,hJk,uu,S⟩
 have hdl:(bs.drop (48*k)).length=bs.length - 48*k:=List.length_drop
 obtain ⟨left,hleft⟩:∃ left,left=bs.drop (48*k):=⟨_,rfl⟩
 rw[←hleft]at S hq hqe hdl
 have hll:left.length≤40000:=by omega
 have hF2:∀ Φ∈[GlF q left,BoxF g0 25 [.slice p bs.length c],BoxF g1 130 [.int .u32 turn],BoxF g2 130 [.int .u32 number]],Stable M w0 Φ:=by simp;exact ⟨hq,f0,f1,f2⟩
 have hx:(leavesF turn number bs)[k]? = some (sealF (leafB turn number bs.length left)):=by rw[leavesF,List.getElem?_map,List.getElem?_range hk,hleft];rfl
 refine kS (kB (kS ?_));refine c_drawD [(0,true),(2,true),(1,false),(3,false),(4,true)] [] S ?_;clear S;intro w S;(iterate 2 (refine dq S ?_;clear S;intro a S));refine dl ?_
 refine srn S (put32_c none 0 0 [] turn _ rfl (by omega) ht.1 ht.2 (slNil _ _)) ?_;clear S;rintro _ a w ⟨g,rfl,hg,hown⟩ hS -
 have S:=hS hown (fun ad h=>by cases h;exact hg)
 clear hS
 rw[qqF]at S
 refine de S ?_;refine dl ?_
 refine srn S (put32_c (some ⟨g,0,none⟩) (0+4) (0+4) (be 4 turn) number _ (be_len _ _) (by omega) hnu.1 hnu.2 ((own_sl (S.row (some ⟨g,0,none⟩) (0+4))).stable (fun _ _ h=>h))) ?_;clear S;rintro _ a w ⟨ga,rfl,hga,hown2⟩ hS -
 have S:=hS hown2 (fun ad h=>by cases h;exact hga)
 clear hS
 refine de S ?_;refine dq S ?_;clear S;intro a S;refine dn (xtn (kS (kR ?_)));(iterate 4 (refine sq S ?_;clear S;intro a S))
 rw[wu16 (bs.length:Int) (by omega) (by omega)]at S
 refine srn S (put16b_c (some ⟨ga,0,none⟩) (0+4+4) (0+4+4) (be 4 turn++be 4 number) (bs.length:Int) _ (by simp[be_len]) (by omega) (by omega) (by omega) ((own_sl (S.row (some ⟨ga,0,none⟩) (0+4+4))).stable (fun _ _ h=>h))) ?_;clear S;rintro _ a w ⟨gb,rfl,hgb,hown3⟩ hS -
 have S:=hS hown3 (fun ad h=>by cases h;exact hgb)
 clear hS
 (iterate 3 (refine sq S ?_;clear S;intro a S))
 rw[wu16 (left.length:Int) (by omega) (by omega)]at S
 refine srn S (put16b_c (some ⟨gb,0,none⟩) (0+4+4+2) (0+4+4+2) (be 4 turn++be 4 number++be 2 (bs.length:Int)) (left.length:Int) _ (by simp[be_len]) (by omega) (by omega) (by omega) ((own_sl (S.row (some ⟨gb,0,none⟩) (0+4+4+2))).stable (fun _ _ h=>h))) ?_;clear S;rintro _ a w ⟨gc,rfl,hgc,hown4⟩ hS -
 have S:=hS hown4 (fun ad h=>by cases h;exact hgc)
 clear hS
 refine sq S ?_;clear S;intro a S;refine kN (xtn (kS (kR ?_)));refine sa S ?_;clear S;intro b7 a w S;refine kN (xtn (kS (kR ?_)));(iterate 2 (refine sq S ?_;clear S;intro a S))
 refine scpB b7 48 left.length left S ((S.fact (Φ:=GlF q left) (by simp)).now.1) rfl (by rw[encL_len,List.length_replicate];rfl) ?_;clear S;intro a w S
 rw[show (encL left).take 48=encL (left.take 48) from encL_take left 48,encZ_drop,←encL_append,show left.take 48++List.replicate (48 - left.length) 0=pad48 left from rfl]at S
 have hp48:LenIs (encL (pad48 left)) 48:=⟨by rw[encL_len,pad48_len];rfl⟩
 refine kN (xtn (kS (kR ?_)));(iterate 3 (refine sq S ?_;clear S;intro a S))
 rw[show (Value.slice (some (if (48:Nat)=0 then (⟨b7,0,none⟩:Addr) else ⟨b7,0*1,none⟩)) (48 - 0) (48 - 0))=.slice (some ⟨b7,0,none⟩) 48 48 from rfl]at S
 refine sap S (by simp only[maxLen];simp) (by simp) ?_;clear S;rintro p3 c3 a w - S
 rw[←encL_append]at S
 refine sr S (sealed_c (leafB turn number bs.length left) p3 c3 _ (leafB_len _ _ _ _) ((own_sl (S.row p3 60)).stable (fun _ _ h=>h))) ?_;clear S;rintro _ a w rfl S
 refine sy S (M:=M) (wI:=w0) (fs0:=[GlF q left,BoxF g0 25 [.slice p bs.length c],BoxF g1 130 [.int .u32 turn],BoxF g2 130 [.int .u32 number]]) hF2 (hy _ _ _ w1 _ hx hJk S.wd.agree rfl) ?_;clear S;intro ok N' a w2 hT hX S
 (iterate 2 (refine sq S ?_;clear S;intro a S));(iterate 3 (refine gQ S ?_;clear S;intro a S));refine sq S ?_;clear S;intro a S;refine kN (xtn ?_)
 refine kC S (fun h6=>?_) (fun h6=>?_)
 refine kT (xbr (xtr (xtr (xbr ?_))))
 refine endI S ⟨w2,S.wd.agree,?_⟩
 cases ok with
 | false=>exact .inr (hX rfl)
 | true=>
  have h48:left.length≤48:=by have:=h6;simp at this;omega
  have e1:k+1=(leavesF turn number bs).length:=by rw[leavesF_len];unfold secN at hk⊢;split at hk <;> split <;> omega
  rw[←e1];exact .inl (hT rfl)
 refine kK (xbn (xtn ?_))
 obtain ⟨rfl,h48⟩:ok=true∧48 < left.length:=by
  cases ok with
  | false=>exact absurd h6 (by simp)
  | true=>exact ⟨rfl,by have:=h6;simp at this;omega⟩
 have hLa:LeC 48 left.length:=⟨by omega⟩
 have hLb:LeC left.length e:=⟨hqe⟩
 have hLc:LeC 48 e:=⟨by omega⟩
 refine kR ?_;(iterate 3 (refine sq S ?_;clear S;intro a S));refine kN (xtn ?_)
 have edd:left.drop 48=bs.drop (48*(k+1)):=by rw[hleft,List.drop_drop];congr 1
 obtain ⟨q',hq'⟩:∃ q',q'=(if e=48 then q else q.map (·.add (48*1))):=⟨_,rfl⟩
 rw[←hq']at S
 have hdr:∀ w,GlF q left w→GlF q' (bs.drop (48*(k+1))) w:=fun w h=>by rw[←edd,hq'];exact h.drop 48 hqe
 replace S:=S.add (Φ:=GlF q' (bs.drop (48*(k+1)))) ((S.mem.fact (GlF q left)).imp hdr)
 rw[show left.length - 48=(bs.drop (48*(k+1))).length from by rw[←edd,List.length_drop]]at S
 exact ⟨(k+1,q',e - 48),⟨⟨by unfold secN at hk⊢;split at hk <;> split <;> omega,by rw[←edd,List.length_drop];omega,hq.imp hdr⟩,N',w2,hT rfl,S.uu,S.sub _ _⟩,by show secN bs.length - (k+1) < secN bs.length - k;omega⟩
def onlyV (g0 g1:Nat):Value:=.func (.func 173) #[] ⟨[.pointer (some ⟨g0,0,none⟩),.pointer (some ⟨g1,0,none⟩)]⟩
theorem only_f (x:Blk) (n:Nat) (w0:World):Ret Tryz.prog 75 [vBlk x,.int .i64 (n:Int)] w0 (fun _=>False) fun v w'=>∃ g0 g1,v=onlyV g0 g1∧(w0.heap.size≤g0∧w0.heap.size≤g1)∧BoxF g0 3 [.int .i64 (n:Int)] w'∧BoxF g1 129 (encL x.l) w':=by
 refine enter Tryz.func75 rfl rfl (Wd.start w0) (fun a S=>?_)
 simp only[Tryz.ntmps75,qqA,qqB,Nat.reduceAdd,Nat.reduceSub,qqC,qqD,qqE,qqF]at S
 refine kS (kR ?_);refine sa S ?_;clear S;intro b2 a w S;refine sa S ?_;clear S;intro b3 a w S;refine sq S ?_;clear S;intro a S;refine kN (xtn (kS (kR ?_)));(iterate 2 (refine sq S ?_;clear S;intro a S));refine kN (xtn (kT ?_))
 have h2:=(S.boxNew b2).elim (fun h=>h.elim) id
 have h3:=(S.boxNew b3).elim (fun h=>h.elim) id
 have e2:=S.boxF b2
 have e3:=S.boxF b3
 exact end1 S (fun _=>⟨b3,b2,rfl,⟨h3,h2⟩,e3,e2⟩)
theorem only_it (g0 g1:Nat) (x:Blk) (n:Nat) (hn:n≤1000000) (w0:World) (M:Nat→Prop) (hM:∀ k,M k→k < w0.heap.size) (f0:Stable M w0 (BoxF g0 3 [.int .i64 (n:Int)])) (f1:Stable M w0 (BoxF g1 129 (encL x.l))) :
  IterRet Tryz.prog 173 [.pointer (some ⟨g0,0,none⟩),.pointer (some ⟨g1,0,none⟩)] w0 M (fun(x:Blk) vs _ _=>vs=[vBlk x]) (List.replicate n x):=by
 intro L J Jx hy hJ
 have hF:∀ Φ∈[BoxF g0 3 [.int .i64 (n:Int)],BoxF g1 129 (encL x.l)],Stable M w0 Φ:=by simp;exact ⟨f0,f1⟩
 refine (callsIn_wide (n:=0)).2 ?_
 refine enter Tryz.func173 rfl rfl (Wd.beginM (M:=M) (fs:=[BoxF g0 3 [.int .i64 (n:Int)],BoxF g1 129 (encL x.l)]) hM hF) (fun a S=>?_)
 simp only[Tryz.ntmps173,qqA,qqB,Nat.reduceAdd,Nat.reduceSub,qqC,qqD,qqE,qqF]at S
 refine kS (kR ?_);(iterate 2 (refine sq S ?_;clear S;intro a S));refine kN (xtn (kB ?_))
 refine c_loop (ι:=Nat) (fun k a w=>k≤n∧∃ N w1,J k w1∧∃ uu:Nat→Value,St w1 (fun _=>False) [] a w ((.func (.yield L) #[] #[])::(.pointer (some ⟨g0,0,none⟩))::(.pointer (some ⟨g1,0,none⟩))::uu 3::(.int .i64 (n:Nat))::(.int .i64 (k:Nat))::uu 6::uu 7::uu 8::uu 9::uu 10::uu 11::[]) [ext N] [BoxF g0 3 [.int .i64 (n:Int)],BoxF g1 129 (encL x.l)]) (fun k=>n - k) 0 ?_ ?_
 exact ⟨Nat.zero_le _,M,w0,hJ,S.uu,S⟩
 clear S
 rintro k a w ⟨hk,N,w1,hJk,uu,S⟩
 refine kS (kR (sq S ?_));clear S;intro a S;refine kN (xtn (kS ?_))
 refine kC S (fun h1=>?_) (fun h1=>?_)
 refine kK (xtn (kS (kB (kS ?_))))
 have hkn:k < n:=by have:=of_decide_eq_true h1;omega
 have hx:(List.replicate n x)[k]? = some x:=by rw[List.getElem?_replicate,if_pos hkn]
 refine kR ?_;(iterate 2 (refine sq S ?_;clear S;intro a S))
 refine sy S (M:=M) (wI:=w0) (fs0:=[BoxF g0 3 [.int .i64 (n:Int)],BoxF g1 129 (encL x.l)]) hF (hy _ _ _ w1 _ hx hJk S.wd.agree rfl) ?_;clear S;intro ok N' a w2 hT hX S
 refine sq S ?_;clear S;intro a S;refine kN (xtn ?_)
 refine kC S (fun h2=>?_) (fun h2=>?_)
 refine kT (xbr (xtr (xtr (xbr ?_))))
 exact endI S ⟨w2,S.wd.agree,.inr (hX (by simpa using h2))⟩
 refine kK (xbn (xtn (kR ?_)));(iterate 2 (refine sq S ?_;clear S;intro a S));refine kN (xtn ?_)
 rw[w64 ((k:Int)+1) (by omega) (by omega)]at S
 exact ⟨k+1,⟨by omega,N',w2,hT (by simpa using h2),S.uu,S⟩,by omega⟩
 refine kE (xte (xte (xbe ?_)))
 have hkn:k=n:=by have:=of_decide_eq_false h1;omega
 refine endI S ⟨w1,S.wd.agree,.inl ?_⟩
 rw[List.length_replicate,←hkn];exact hJk
def layW (s:DS) (k:Int):List Blk→DS × Int
 | []=>(s,0)
 | x::xs=>if askE s k true=0 then layW (wrD s k x) (k+1) xs else (wrD s k x,askE s k true)
def layF (s:DS) (k:Int) (xs:List Blk):DS × Int:=if (layW s k xs).2=0 then (syD (layW s k xs).1,askE (layW s k xs).1 0 true) else layW s k xs
theorem wrD_loose (s:DS) (k:Int) (x:Blk):(wrD s k x).loose.length≤s.loose.length+1:=by
 have h:(askD s k true).loose=s.loose:=by
  unfold askD;split
  rfl
  split
  rfl
  split
  rfl
  split <;> (try split) <;> rfl
 unfold wrD askedD
 split
 simp[opD,writeD,h]
 rw[h];omega
theorem lay_c (G:Nat) [EntF Tryz.prog G] (lb:List Value) (xs:List Blk) (b m:Nat) (p:Option Addr) (c:Nat) (s:DS) (at_:Nat) (fs:List (World→Prop)) (w0:World) (hl:s.loose.length+xs.length≤1000000) (ha:at_+xs.length≤1000000) (hd:(dkI b m p c s).holds w0) (hf:∀ Φ∈fs,Stable (dkI b m p c s).foot w0 Φ)
  (hit:∀ (M:Nat→Prop) (w1:World),(∀ k,M k→k < w1.heap.size)→(∀ Φ∈fs,Stable M w1 Φ)→IterRet Tryz.prog G lb w1 M (fun(x:Blk) vs _ _=>vs=[vBlk x]) xs) :
  Ret Tryz.prog 74 [.pointer (some ⟨b,0,none⟩),.int .i64 (at_:Int),.func (.func G) #[] ⟨lb⟩] w0 (dkI b m p c s).foot fun v w'=>v=.int .i64 (layF s at_ xs).2∧∃ p' c',(dkI b m p' c' (layF s at_ xs).1).holds w'∧∀ i,(dkI b m p' c' (layF s at_ xs).1).foot i→(dkI b m p c s).foot i∨w0.heap.size≤i:=by
 have hxl:∀ i x,xs[i]? = some x→i < xs.length:=fun i x h=>(List.getElem?_eq_some_iff.1 h).1
 refine enterM Tryz.func74 rfl rfl (Wd.itLent (x:=dkI b m p c s) (fs:=fs) hd hf) (fun a S=>?_)
 simp only[Tryz.ntmps74,qqA,qqB,Nat.reduceAdd,Nat.reduceSub,qqC,qqD,qqE,qqF]at S
 refine kS (kR ?_);refine sa S ?_;clear S;intro b3 a w S;refine sa S ?_;clear S;intro b4 a w S;refine sa S ?_;clear S;intro b6 a w S;refine kN (xtn (kS (kS (kR (sq S ?_)))));clear S;intro a S;refine kN (xtn (kB ?_))
 replace S:=S.boxToF b3
 refine c_range (κ:=DS × Option Addr × Nat) (κx:=DS × Option Addr × Nat × Int) (Ds:=[]) xs
  (fun i k=>[Wk.box b6 26 [.int .i64 0],Wk.box b4 3 [.int .i64 ((at_+i:Nat):Int)],marks [],dkI b m k.2.1 k.2.2 k.1])
  (fun _ _=>BoxF b3 34 [.pointer (some ⟨b,0,none⟩)]::fs)
  (fun i k=>layW s at_ xs=layW k.1 ((at_+i:Nat):Int) (xs.drop i)∧k.1.loose.length≤s.loose.length+i)
  (fun k=>[Wk.box b6 26 [.int .i64 k.2.2.2],marks [],dkI b m k.2.1 k.2.2.1 k.1])
  (fun _=>BoxF b3 34 [.pointer (some ⟨b,0,none⟩)]::fs)
  (fun cd k=>cd=.ret∧k.2.2.2≠0∧layW s at_ xs=(k.1,k.2.2.2)) (s,p,c) S
  (fun M w1 hM hF _=>hit M w1 hM (fun Φ h=>hF Φ (by simp[h]))) ⟨⟨by simp,by simp⟩,rfl,rfl⟩ ?_ ?_ ?_ ?_
 ·clear S
  rintro L D bL M' w1 i x vs ⟨s1,p1,c1⟩ W0 w hx ⟨hlw,hll⟩ hW0 hgr rfl
  have hi:=hxl i x hx
  simp only[]at hlw hll
  have hdr:xs.drop i=x::xs.drop (i+1):=by rw[List.drop_eq_getElem_cons hi,(List.getElem?_eq_some_iff.1 hx).2]
  rw[hdr,layW]at hlw
  refine ⟨_,inferInstance,fun a S=>?_⟩
  simp only[]at S
  refine kR (sa S ?_);clear S;intro b7 a w S;refine sw S ?_;clear S;intro a w S;refine kN (xtn ?_)
  refine rbegin (D:=D) (b:=bL) S ?_;clear S;intro a w S
  refine kB (kS (kS (kR ?_)));(iterate 3 (refine sq S ?_;clear S;intro a S))
  refine sit (dkI b m p1 c1 s1) S (dwrite_c b m p1 c1 s1 ((at_+i:Nat):Int) x _ (by omega) (S.it (dkI b m p1 c1 s1))) rfl ?_;clear S;rintro _ a w ⟨rfl,p2,c2,hh,hn⟩ hS
  have S:=hS (dkI b m p2 c2 (wrD s1 ((at_+i:Nat):Int) x)) hh hn
  clear hS
  refine sq S ?_;clear S;intro a S;refine kN (xtn (kS (kR ?_)));(iterate 2 (refine sq S ?_;clear S;intro a S));refine kN (xtn ?_)
  refine kC S (fun h4=>?_) (fun h4=>?_)
  ·refine kS (kR (sq S ?_));clear S;intro a S;refine sw S ?_;clear S;intro a w S;refine kN (xtn (kT (xtr (xbr ?_))))
   have he:askE s1 ((at_+i:Nat):Int) true≠0:=by simpa using h4
   rw[if_neg he]at hlw
   replace S:=S.sub [lpI L D (lpR bL .busy none),Wk.box b6 26 [.int .i64 (askE s1 ((at_+i:Nat):Int) true)],marks [],dkI b m p2 c2 (wrD s1 ((at_+i:Nat):Int) x)] (BoxF b3 34 [.pointer (some ⟨b,0,none⟩)]::fs)
   refine rret (D:=D) (b:=bL) S fun W hW=>⟨.inl rfl,(wrD s1 ((at_+i:Nat):Int) x,p2,c2,askE s1 ((at_+i:Nat):Int) true),⟨rfl,he,hlw⟩,hW⟩
  ·refine kK (xtn (kR ?_));(iterate 2 (refine sq S ?_;clear S;intro a S))
   rw[show IntKind.i64.wrap (((at_+i:Nat):Int)+1)=((at_+(i+1):Nat):Int) from by rw[w64 _ (by omega) (by omega)];rfl]at S
   refine sw S ?_;clear S;intro a w S;refine kN (xbn ?_)
   have he:askE s1 ((at_+i:Nat):Int) true=0:=by simpa using h4
   rw[if_pos he]at hlw
   replace S:=S.sub [lpI L D (lpR bL .busy none),Wk.box b6 26 [.int .i64 0],Wk.box b4 3 [.int .i64 ((at_+(i+1):Nat):Int)],marks [],dkI b m p2 c2 (wrD s1 ((at_+i:Nat):Int) x)] (BoxF b3 34 [.pointer (some ⟨b,0,none⟩)]::fs)
   have:=wrD_loose s1 ((at_+i:Nat):Int) x
   refine rnext (D:=D) (b:=bL) S fun W hW=>⟨(wrD s1 ((at_+i:Nat):Int) x,p2,c2),⟨by rw[hlw];congr 1,by show (wrD s1 ((at_+i:Nat):Int) x).loose.length≤_;omega⟩,hW⟩
 ·clear S
  rintro D ⟨s1,p1,c1⟩ a w ⟨hlw,hll⟩ S
  simp only[List.drop_length,layW]at hlw hll S
  replace S:=S.join (Ds:=[])
  refine xbn (xtn (kS (kR (sq S ?_))));clear S;intro a S
  refine sit (dkI b m p1 c1 s1) S (dsync_c b m p1 c1 s1 _ (by omega) (S.it (dkI b m p1 c1 s1))) rfl ?_;clear S;rintro _ a w ⟨rfl,p2,c2,hh,hn⟩ hS
  have S:=hS (dkI b m p2 c2 (syD s1)) hh hn
  clear hS
  refine sw S ?_;clear S;intro a w S;refine kN (xtn (kT ?_))
  refine endM1 S (fun w hw=>?_)
  have e2:layF s at_ xs=(syD s1,askE s1 0 true):=by rw[layF,hlw,if_pos rfl]
  rw[e2]
  exact ⟨rfl,p2,c2,hw.held (dkI b m p2 c2 (syD s1)) (by simp),hw.own (dkI b m p2 c2 (syD s1)) (by simp) rfl⟩
 ·rintro D ⟨s1,p1,c1,e1⟩ a w ⟨-,he,hlw⟩ S
  simp only[]at S he hlw
  replace S:=S.join (Ds:=[])
  repeat (first | refine xbr ?_ | refine xtr ?_)
  refine endM1 S (fun w hw=>?_)
  have e2:layF s at_ xs=(s1,e1):=by rw[layF,hlw,if_neg he]
  rw[e2]
  exact ⟨rfl,p1,c1,hw.held (dkI b m p1 c1 s1) (by simp),hw.own (dkI b m p1 c1 s1) (by simp) rfl⟩
 ·rintro id D _ a w ⟨h,-⟩;cases h
def secF (n:Int):Int:=if n < 0∨40000 < n then 0 else (secN n.toNat:Int)
theorem sectors_c (n:Int) (w0:World):Ret Tryz.prog 78 [.int .i64 n] w0 (fun _=>False) fun v _=>v=.int .i64 (secF n):=by
 refine enter Tryz.func78 rfl rfl (Wd.start w0) (fun a S=>?_)
 simp only[Tryz.ntmps78,qqA,qqB,Nat.reduceAdd,Nat.reduceSub,qqC,qqD,qqE,qqF]at S
 refine kS (kR (sq S ?_));clear S;intro a S;refine kN (xtn (kS (kB (kS (kR ?_)))));(iterate 3 (refine sq S ?_;clear S;intro a S));(iterate 2 (refine gQ S ?_;clear S;intro a S));(iterate 2 (refine sq S ?_;clear S;intro a S));refine kN (xtn ?_)
 refine kC S (fun h1=>?_) (fun h1=>?_)
 refine kS (kR (sq S ?_));clear S;intro a S;refine kN (xtn (kT (xbr (xtr ?_))))
 have h:n < 0∨40000 < n:=by simpa using h1
 refine end1 S (fun _=>?_)
 rw[secF,if_pos h]
 refine kS (kR ?_);(iterate 3 (refine sq S ?_;clear S;intro a S));refine kN (xtn ?_)
 refine kC S (fun h3=>?_) (fun h3=>?_)
 refine kS (kR (sq S ?_));clear S;intro a S;refine kN (xtn (kT (xbr (xtr ?_))))
 have h:n=0:=by simpa using h3
 subst h
 refine end1 S (fun _=>?_)
 rfl
 refine kK (xbn (xtn (kS (kR ?_))));(iterate 5 (refine sq S ?_;clear S;intro a S));refine kN (xtn (kT ?_))
 have hn:¬(n < 0∨40000 < n):=by simpa using h1
 have h0:n≠0:=by simpa using h3
 refine end1 S (fun _=>?_)
 rw[w64 (n+48) (by omega) (by omega),w64 (n+48 - 1) (by omega) (by omega),Int.tdiv_eq_ediv_of_nonneg (by omega),w64 _ (by omega) (by omega)]
 rw[secF,if_neg hn,secN,if_neg (by omega)]
 congr 1;omega
def mayF (s:DS) (n:Int):Bool:=decide (4≤n∧n≤1000∧2*n+2≤s.size)
theorem may_no (b m:Nat) (p:Option Addr) (c k:Nat) (s:DS) (n:Int) (hn:¬(4≤n∧n≤1000)) (w0:World) (hb:Stable (fun _=>False) w0 (BoxF b 170 (cDisk m p k c s))):Ret Tryz.prog 73 [.pointer (some ⟨b,0,none⟩),.int .i64 n] w0 (fun _=>False) fun v _=>v=.bool (mayF s n):=by
 refine enter Tryz.func73 rfl rfl (Wd.begin (fs:=[BoxF b 170 (cDisk m p k c s)]) (by simpa using hb)) (fun a S=>?_)
 simp only[Tryz.ntmps73,qqA,qqB,Nat.reduceAdd,Nat.reduceSub,qqC,qqD,qqE,qqF]at S
 refine kS (kR (sq S ?_));clear S;intro a S;refine kN (xtn (kS (kR ?_)));(iterate 3 (refine sq S ?_;clear S;intro a S));(iterate 2 (refine gQ S ?_;clear S;intro a S));refine sq S ?_;clear S;intro a S
 rw[show (decide (4≤n)&&decide (n≤1000))=false from by simp;omega]at S
 refine sq S ?_;clear S;intro a S;(iterate 6 (refine gF S ?_;clear S;intro a S));(iterate 2 (refine sq S ?_;clear S;intro a S));refine kN (xtn (kT ?_))
 refine end1 S (fun _=>?_)
 rw[show mayF s n=false from by simp[mayF];omega]
theorem may_yes (b m:Nat) (p:Option Addr) (c k:Nat) (s:DS) (n:Int) (hn:4≤n∧n≤1000) (w0:World) (hb:Stable (fun _=>False) w0 (BoxF b 170 (cDisk m p k c s))):Ret Tryz.prog 73 [.pointer (some ⟨b,0,none⟩),.int .i64 n] w0 (fun _=>False) fun v _=>v=.bool (mayF s n):=by
 refine enter Tryz.func73 rfl rfl (Wd.begin (fs:=[BoxF b 170 (cDisk m p k c s)]) (by simpa using hb)) (fun a S=>?_)
 simp only[Tryz.ntmps73,qqA,qqB,Nat.reduceAdd,Nat.reduceSub,qqC,qqD,qqE,qqF]at S
 refine kS (kR (sq S ?_));clear S;intro a S;refine kN (xtn (kS (kR ?_)));(iterate 3 (refine sq S ?_;clear S;intro a S));(iterate 2 (refine gQ S ?_;clear S;intro a S));refine sq S ?_;clear S;intro a S
 rw[show (decide (4≤n)&&decide (n≤1000))=true from by simp;omega]at S
 refine sq S ?_;clear S;intro a S;refine gT S ?_;refine sq S ?_;clear S;intro a S;refine gT S ?_
 refine sr S (len_c b m p k c s _ ((S.fact (Φ:=BoxF b 170 (cDisk m p k c s)) (by simp)).less fun _ _ h=>h.elim)) ?_;clear S;rintro _ a w rfl S
 refine gT S ?_;refine sq S ?_;clear S;intro a S;refine gT S ?_;refine sq S ?_;clear S;intro a S;refine gT S ?_;refine sq S ?_;clear S;intro a S;refine gT S ?_;(iterate 3 (refine sq S ?_;clear S;intro a S));refine kN (xtn (kT ?_))
 refine end1 S (fun _=>?_)
 rw[w64 (2*n) (by omega) (by omega),w64 (2*n+2) (by omega) (by omega)]
 rw[mayF,decide_eq_decide.2 (show (4≤n∧n≤1000∧2*n+2≤s.size)↔2*n+2≤s.size from ⟨fun h=>h.2.2,fun h=>⟨hn.1,hn.2,h⟩⟩)]
theorem may_c (b m:Nat) (p:Option Addr) (c k:Nat) (s:DS) (n:Int) (w0:World) (hb:Stable (fun _=>False) w0 (BoxF b 170 (cDisk m p k c s))):Ret Tryz.prog 73 [.pointer (some ⟨b,0,none⟩),.int .i64 n] w0 (fun _=>False) fun v _=>v=.bool (mayF s n):=by
 by_cases h:4≤n∧n≤1000
 exact may_yes b m p c k s n h w0 hb
 exact may_no b m p c k s n h w0 hb
abbrev cBook (b:Nat) (n turn:Int):List Value:=[.pointer (some ⟨b,0,none⟩),.int .i64 n,.int .u32 turn]
def fromN (n:Nat) (turn:Int):Nat:=2+(turn % 2).toNat*n
theorem from_c (b n:Nat) (turn:Int) (hn:n≤1000) (ht:0≤turn∧turn≤4294967295) (w0:World):Ret Tryz.prog 81 [.agg ⟨cBook b n turn⟩] w0 (fun _=>False) fun v _=>v=.int .i64 ((fromN n turn:Nat):Int):=by
 refine enter Tryz.func81 rfl rfl (Wd.start w0) (fun a S=>?_)
 simp only[Tryz.ntmps81,qqA,qqB,Nat.reduceAdd,Nat.reduceSub,qqC,qqD,qqE,qqF]at S
 refine kS (kR ?_);refine sa S ?_;clear S;intro b1 a w S;refine sq S ?_;clear S;intro a S;refine kN (xtn (kS (kR ?_)));(iterate 9 (refine sq S ?_;clear S;intro a S));refine kN (xtn (kT ?_))
 refine end1 S (fun _=>?_)
 have h0:turn.tmod 2=turn % 2:=Int.tmod_eq_emod_of_nonneg ht.1
 rw[h0]
 rcases (show turn % 2=0∨turn % 2=1 by omega) with h | h
 rw[fromN,h];simp[w64]
 rw[fromN,h,show IntKind.i64.wrap 1=1 from rfl,Int.one_mul,w64 (n:Int) (by omega) (by omega),w64 _ (by omega) (by omega)];simp
def upT (turn:Int):Int:=IntKind.u32.wrap (turn+1)
theorem next_c (b n:Nat) (turn:Int) (w0:World):Ret Tryz.prog 80 [.agg ⟨cBook b n turn⟩] w0 (fun _=>False) fun v _=>v=.agg ⟨cBook b n (upT turn)⟩:=by
 refine enter Tryz.func80 rfl rfl (Wd.start w0) (fun a S=>?_)
 simp only[Tryz.ntmps80,qqA,qqB,Nat.reduceAdd,Nat.reduceSub,qqC,qqD,qqE,qqF]at S
 refine kS (kR ?_);refine sa S ?_;clear S;intro b1 a w S;refine sa S ?_;clear S;intro b2 a w S;refine kN (xtn (kS (kR ?_)));(iterate 8 (refine sq S ?_;clear S;intro a S));refine sw S ?_;clear S;intro a w S;refine kN (xtn (kT ?_))
 refine end1 S (fun _=>?_)
 rfl
theorem begin2_c (g0 b m n:Nat) (p:Option Addr) (c:Nat) (s:DS) (turn:Int) (w0:World) (hn:n≤1000) (ht:0≤turn∧turn≤4294967295) (hl:s.loose.length≤999000) (hd:(dkI b m p c s).holds w0) (f0:Stable (dkI b m p c s).foot w0 (BoxF g0 132 (cBook b n turn))) :
  Ret Tryz.prog 175 [.pointer (some ⟨g0,0,none⟩)] w0 (dkI b m p c s).foot fun v w'=>v=.int .i64 (layF s ((turn % 2).toNat:Nat) [titleF turn n]).2∧∃ p' c',(dkI b m p' c' (layF s ((turn % 2).toNat:Nat) [titleF turn n]).1).holds w'∧∀ i,(dkI b m p' c' (layF s ((turn % 2).toNat:Nat) [titleF turn n]).1).foot i→(dkI b m p c s).foot i∨w0.heap.size≤i:=by
 refine enter Tryz.func175 rfl rfl (Wd.itLent (x:=dkI b m p c s) (fs:=[BoxF g0 132 (cBook b n turn)]) hd (by intro Φ hΦ;obtain rfl:=List.mem_singleton.1 hΦ;exact f0)) (fun a S=>?_)
 simp only[Tryz.ntmps175,qqA,qqB,Nat.reduceAdd,Nat.reduceSub,qqC,qqD,qqE,qqF]at S
 refine kS (kR (sq S ?_));clear S;intro a S;refine kN (xtn (kS ?_));refine c_drawE [(0,true),(1,true),(2,true),(3,true),(4,true),(5,true),(6,true),(7,true),(8,true),(9,true),(10,false),(11,false),(12,false),(13,true)] [] S ?_;clear S;intro w S;(iterate 6 (refine dq S ?_;clear S;intro a S))
 rw[show IntKind.i64.wrap (turn.tmod 2)=((turn % 2).toNat:Int) from by rw[Int.tmod_eq_emod_of_nonneg ht.1,w64 _ (by omega) (by omega)];omega]at S
 (iterate 4 (refine dq S ?_;clear S;intro a S));refine dl ?_
 refine sr S (title_c turn n ht (by omega) _) ?_;clear S;rintro _ a w rfl S
 refine de S ?_;refine dl ?_
 have hlt:=foots_lt S
 refine sr S (only_f (titleF turn n) 1 _) ?_;clear S;rintro _ a w ⟨h0,h1,rfl,⟨n0,n1⟩,e0,e1⟩ S
 replace S:=S.add (Φ:=BoxF h0 3 [.int .i64 ((1:Nat):Int)]) (BoxF.stable e0 (fun hm=>by have:=hlt _ hm;omega))
 replace S:=S.add (Φ:=BoxF h1 129 (encL (titleF turn n).l)) (BoxF.stable e1 (fun hm=>by have:=hlt _ hm;omega))
 refine de S ?_;refine dl ?_
 refine sit (dkI b m p c s) S (lay_c 173 [.pointer (some ⟨h0,0,none⟩),.pointer (some ⟨h1,0,none⟩)] [titleF turn n] b m p c s (turn % 2).toNat [BoxF h1 129 (encL (titleF turn n).l),BoxF h0 3 [.int .i64 ((1:Nat):Int)]] _ (by simp;omega) (by simp;omega) (S.it (dkI b m p c s)) (fun Φ hΦ=>S.lend (dkI b m p c s) (S.wd.facts Φ (List.mem_append_left _ hΦ))) (fun M w1 hM hF=>only_it h0 h1 (titleF turn n) 1 (by omega) w1 M hM (hF _ (by simp)) (hF _ (by simp)))) rfl ?_;clear S;rintro _ a w ⟨rfl,p2,c2,hh,hn2⟩ hS
 have S:=hS (dkI b m p2 c2 (layF s ((turn % 2).toNat:Nat) [titleF turn n]).1) hh hn2
 clear hS
 refine de S ?_;refine dq S ?_;clear S;intro a S;refine dn (xtn (kT ?_))
 have h1:=S.itNew (dkI b m p2 c2 (layF s ((turn % 2).toNat:Nat) [titleF turn n]).1) rfl
 refine end1 S (fun _=>⟨rfl,p2,c2,hh,h1⟩)
theorem begin1_c (g0 g1 b m n:Nat) (p:Option Addr) (c:Nat) (s:DS) (turn:Int) (bs:List UInt8) (q:Option Addr) (e:Nat) (w0:World) (hn:n≤1000) (ht:0≤turn∧turn≤4294967295) (hbs:bs.length≤40000) (hqe:bs.length≤e) (hl:s.loose.length≤998000) (hd:(dkI b m p c s).holds w0) (f0:Stable (dkI b m p c s).foot w0 (BoxF g0 132 (cBook b n turn))) (f1:Stable (dkI b m p c s).foot w0 (BoxF g1 25 [.slice q bs.length e])) (f2:Stable (dkI b m p c s).foot w0 (GlF q bs)) :
  Ret Tryz.prog 174 [.pointer (some ⟨g0,0,none⟩),.pointer (some ⟨g1,0,none⟩)] w0 (dkI b m p c s).foot fun v w'=>v=.int .i64 (layF s (fromN n turn:Nat) (leavesF turn 0 bs)).2∧∃ p' c',(dkI b m p' c' (layF s (fromN n turn:Nat) (leavesF turn 0 bs)).1).holds w'∧∀ i,(dkI b m p' c' (layF s (fromN n turn:Nat) (leavesF turn 0 bs)).1).foot i→(dkI b m p c s).foot i∨w0.heap.size≤i:=by
 have hll:(leavesF turn 0 bs).length≤840:=by rw[leavesF_len];unfold secN;split <;> omega
 have hfr:fromN n turn≤1002:=by
  unfold fromN
  rcases (show (turn % 2).toNat=0∨(turn % 2).toNat=1 by omega) with h | h <;> rw[h] <;> omega
 refine enter Tryz.func174 rfl rfl (Wd.itLent (x:=dkI b m p c s) (fs:=[BoxF g0 132 (cBook b n turn),BoxF g1 25 [.slice q bs.length e],GlF q bs]) hd (by simp;exact ⟨f0,f1,f2⟩)) (fun a S=>?_)
 simp only[Tryz.ntmps174,qqA,qqB,Nat.reduceAdd,Nat.reduceSub,qqC,qqD,qqE,qqF]at S
 refine kS (kR (sq S ?_));clear S;intro a S;refine kN (xtn (kS ?_));refine c_drawE [(0,true),(1,true),(2,true),(4,true),(5,true),(6,true),(3,false),(7,false),(8,false),(9,true)] [] S ?_;clear S;intro w S;(iterate 6 (refine dq S ?_;clear S;intro a S));refine dl ?_;refine sr S (from_c b n turn hn ht _) ?_;clear S;rintro _ a w rfl S;refine de S ?_;refine dl ?_
 have hlt:=foots_lt S
 refine sr S (leaves_f turn 0 q bs.length e _) ?_;clear S;rintro _ a w ⟨h0,h1,h2,rfl,⟨n0,n1,n2⟩,e0,e1,e2⟩ S
 replace S:=S.add (Φ:=BoxF h0 25 [.slice q bs.length e]) (BoxF.stable e0 (fun hm=>by have:=hlt _ hm;omega))
 replace S:=S.add (Φ:=BoxF h1 130 [.int .u32 turn]) (BoxF.stable e1 (fun hm=>by have:=hlt _ hm;omega))
 replace S:=S.add (Φ:=BoxF h2 130 [.int .u32 0]) (BoxF.stable e2 (fun hm=>by have:=hlt _ hm;omega))
 refine de S ?_;refine dl ?_
 refine sit (dkI b m p c s) S (lay_c 177 [.pointer (some ⟨h0,0,none⟩),.pointer (some ⟨h1,0,none⟩),.pointer (some ⟨h2,0,none⟩)] (leavesF turn 0 bs) b m p c s (fromN n turn) [BoxF h2 130 [.int .u32 0],BoxF h1 130 [.int .u32 turn],BoxF h0 25 [.slice q bs.length e],BoxF g0 132 (cBook b n turn),BoxF g1 25 [.slice q bs.length e],GlF q bs] _ (by omega) (by omega) (S.it (dkI b m p c s)) (fun Φ hΦ=>S.lend (dkI b m p c s) (S.wd.facts Φ hΦ)) (fun M w1 hM hF=>leaves_it turn 0 ht (by omega) h0 h1 h2 bs q e hbs hqe w1 M hM (hF _ (by simp)) (hF _ (by simp)) (hF _ (by simp)) (hF _ (by simp)))) rfl ?_;clear S;rintro _ a w ⟨rfl,p3,c3,hh,hn2⟩ hS
 have S:=hS (dkI b m p3 c3 (layF s (fromN n turn:Nat) (leavesF turn 0 bs)).1) hh hn2
 clear hS
 refine de S ?_;refine dq S ?_;clear S;intro a S;refine dn (xtn (kT ?_))
 have h1:=S.itNew (dkI b m p3 c3 (layF s (fromN n turn:Nat) (leavesF turn 0 bs)).1) rfl
 have hh:=S.it (dkI b m p3 c3 (layF s (fromN n turn:Nat) (leavesF turn 0 bs)).1)
 refine end1 S (fun _=>⟨rfl,p3,c3,hh,h1⟩)
theorem askD_loose (s:DS) (k:Int) (b:Bool):(askD s k b).loose=s.loose:=by
 unfold askD;split
 rfl
 split
 rfl
 split
 rfl
 split <;> (try split) <;> rfl
theorem syD_loose (s:DS):(syD s).loose.length≤s.loose.length:=by
 unfold syD askedD
 split
 simp[opD,settleD]
 rw[askD_loose];exact Nat.le_refl _
theorem layW_loose (xs:List Blk):∀ (s:DS) (k:Int),(layW s k xs).1.loose.length≤s.loose.length+xs.length:=by
 induction xs with
 | nil=>intro s k;exact Nat.le_refl _
 | cons x xs ih=>
  intro s k
  have h1:=wrD_loose s k x
  have h2:=ih (wrD s k x) (k+1)
  rw[layW]
  split
  ·rw[qqA];omega
  ·rw[qqA];show (wrD s k x).loose.length≤_;omega
theorem layF_loose (s:DS) (k:Int) (xs:List Blk):(layF s k xs).1.loose.length≤s.loose.length+xs.length:=by
 have h1:=layW_loose xs s k
 have h2:=syD_loose (layW s k xs).1
 unfold layF
 split
 show (syD (layW s k xs).1).loose.length≤_;omega
 exact h1
def wstepF (n:Nat) (turn:Int) (bs:List UInt8) (i:Nat) (s:DS):DS × Int:=if i=0 then layF s (fromN n turn:Nat) (leavesF turn 0 bs) else layF s ((turn % 2).toNat:Nat) [titleF turn n]
def restF (n:Nat) (turn:Int) (bs:List UInt8):Nat→DS→DS × Int
 | 0,s=>if (wstepF n turn bs 0 s).2=0 then wstepF n turn bs 1 (wstepF n turn bs 0 s).1 else wstepF n turn bs 0 s
 | 1,s=>wstepF n turn bs 1 s
 | _,s=>(s,0)
def begF (n:Nat) (turn:Int) (bs:List UInt8) (s:DS):DS × Int:=restF n turn bs 0 s
theorem restF_step (n:Nat) (turn:Int) (bs:List UInt8) (i:Nat) (hi:i < 2) (s:DS):restF n turn bs i s=if (wstepF n turn bs i s).2=0 then restF n turn bs (i+1) (wstepF n turn bs i s).1 else wstepF n turn bs i s:=by
 rcases (show i=0∨i=1 by omega) with rfl | rfl
 rfl
 show wstepF n turn bs 1 s=if (wstepF n turn bs 1 s).2=0 then ((wstepF n turn bs 1 s).1,0) else wstepF n turn bs 1 s
 split
 rename_i h;rw[←h]
 rfl
def stepFn (i:Nat):Nat:=if i=0 then 174 else 175
def stepLb (g0 g1 i:Nat):List Value:=if i=0 then [.pointer (some ⟨g0,0,none⟩),.pointer (some ⟨g1,0,none⟩)] else [.pointer (some ⟨g0,0,none⟩)]
instance entStep {i:Nat} : EntF Tryz.prog (stepFn i):=by
 unfold stepFn
 split <;> infer_instance
theorem wstep_c (g0 g1 b m n:Nat) (p:Option Addr) (c:Nat) (s:DS) (turn:Int) (bs:List UInt8) (q:Option Addr) (e i:Nat) (w0:World) (hn:n≤1000) (ht:0≤turn∧turn≤4294967295) (hbs:bs.length≤40000) (hqe:bs.length≤e) (hl:s.loose.length≤998000) (hd:(dkI b m p c s).holds w0) (f0:Stable (dkI b m p c s).foot w0 (BoxF g0 132 (cBook b n turn))) (f1:Stable (dkI b m p c s).foot w0 (BoxF g1 25 [.slice q bs.length e])) (f2:Stable (dkI b m p c s).foot w0 (GlF q bs)) :
  Ret Tryz.prog (stepFn i) (stepLb g0 g1 i) w0 (dkI b m p c s).foot fun v w'=>v=.int .i64 (wstepF n turn bs i s).2∧∃ p' c',(dkI b m p' c' (wstepF n turn bs i s).1).holds w'∧∀ k,(dkI b m p' c' (wstepF n turn bs i s).1).foot k→(dkI b m p c s).foot k∨w0.heap.size≤k:=by
 unfold stepFn stepLb wstepF
 split
 exact begin1_c g0 g1 b m n p c s turn bs q e w0 hn ht hbs hqe hl hd f0 f1 f2
 exact begin2_c g0 b m n p c s turn w0 hn ht (by omega) hd f0
theorem begin_c (b m n:Nat) (p:Option Addr) (c:Nat) (s:DS) (turn:Int) (bs:List UInt8) (q:Option Addr) (e:Nat) (w0:World) (hn:n≤1000) (ht:0≤turn∧turn≤4294967295) (hbs:bs.length≤40000) (hqe:bs.length≤e) (hl:s.loose.length≤990000) (hd:(dkI b m p c s).holds w0) (f2:Stable (dkI b m p c s).foot w0 (GlF q bs)) :
  Ret Tryz.prog 76 [.agg ⟨cBook b n turn⟩,.slice q bs.length e] w0 (dkI b m p c s).foot fun v w'=>v=.int .i64 (begF n turn bs s).2∧∃ p' c',(dkI b m p' c' (begF n turn bs s).1).holds w'∧∀ k,(dkI b m p' c' (begF n turn bs s).1).foot k→(dkI b m p c s).foot k∨w0.heap.size≤k:=by
 have hll:(leavesF turn 0 bs).length≤840:=by rw[leavesF_len];unfold secN;split <;> omega
 have hst:∀ i s,(wstepF n turn bs i s).1.loose.length≤s.loose.length+840:=fun i s=>by
  unfold wstepF
  split
  have:=layF_loose s (fromN n turn:Nat) (leavesF turn 0 bs);omega
  have:=layF_loose s ((turn % 2).toNat:Nat) [titleF turn n];simp only[qqA,qqB]at this;omega
 refine enter Tryz.func76 rfl rfl (Wd.itLent (x:=dkI b m p c s) (fs:=[GlF q bs]) hd (by intro Φ hΦ;obtain rfl:=List.mem_singleton.1 hΦ;exact f2)) (fun a S=>?_)
 simp only[Tryz.ntmps76,qqA,qqB,Nat.reduceAdd,Nat.reduceSub,qqC,qqD,qqE,qqF]at S
 refine kS (kR ?_);refine sa S ?_;clear S;intro b2 a w S;refine sa S ?_;clear S;intro b3 a w S;refine sq S ?_;clear S;intro a S;refine kN (xtn (kS (kR ?_)));(iterate 3 (refine sq S ?_;clear S;intro a S));refine sa S ?_;clear S;intro b5 a w S;refine sw S ?_;clear S;intro a w S;refine kN (xtn (kS (kS (kR ?_))));(iterate 2 (refine sq S ?_;clear S;intro a S));refine kN (xtn (kB ?_))
 replace S:=S.boxToF b3
 replace S:=S.boxToF b2
 refine c_fore4 S (fun(i:Nat) (s':DS) (p':Option Addr) (c':Nat) uu=>[(4,uu 4),(2,uu 7),(0,uu 8),(4,.int .i64 (i:Nat)),(0,uu 14),(0,uu 15),(0,uu 16),(0,uu 17),(0,uu 18),(0,uu 19),(0,uu 20),(0,uu 21)]) (fun(i:Nat) (s':DS) (p':Option Addr) (c':Nat)=>[Wk.box b5 252 [.func (.func (stepFn 0)) #[] ⟨stepLb b2 b3 0⟩,.func (.func (stepFn 1)) #[] ⟨stepLb b2 b3 1⟩],dkI b m p' c' s']) (fun(i:Nat) (s':DS) (p':Option Addr) (c':Nat)=>[BoxF b2 132 (cBook b n turn),BoxF b3 25 [.slice q bs.length e],GlF q bs]) (fun(i:Nat) (s':DS) (p':Option Addr) (c':Nat)=>i≤2∧begF n turn bs s=restF n turn bs i s'∧s'.loose.length≤990000+840*i) (fun(i:Nat) (s':DS) (p':Option Addr) (c':Nat)=>2 - i) (0) (s) (p) (c) ?_ S.uu ?_ ?_
 exact ⟨by omega,rfl,by omega⟩
 first | exact S | exact S.sub _ _
 clear S;rintro i s' p' c' uu a w ⟨hi,hre,hsl⟩ S
 refine kS (kR (sq S ?_));clear S;intro a S;refine kN (xtn (kS ?_))
 refine kC S (fun h3=>?_) (fun h3=>?_)
 refine kK (xtn (kS (kB (kS ?_))))
 have hi2:i < 2:=by have:=of_decide_eq_true h3;omega
 rw[restF_step n turn bs i hi2]at hre
 refine kR ?_
 refine sv (.func (.func (stepFn i)) #[] ⟨stepLb b2 b3 i⟩) S (fun hf=>?_) ?_
 rcases (show i=0∨i=1 by omega) with rfl | rfl
 exact run_idx [.func (.func (stepFn 0)) #[] ⟨stepLb b2 b3 0⟩,.func (.func (stepFn 1)) #[] ⟨stepLb b2 b3 1⟩] 0 _ rfl rfl hf _
 exact run_idx [.func (.func (stepFn 0)) #[] ⟨stepLb b2 b3 0⟩,.func (.func (stepFn 1)) #[] ⟨stepLb b2 b3 1⟩] 1 _ rfl rfl hf _
 clear S;intro a S;refine sq S ?_;clear S;intro a S;refine kN (xtn (kS (kR (sq S ?_))));clear S;intro a S
 have hfs:=fun Φ hΦ=>S.lend (dkI b m p' c' s') (S.wd.facts Φ hΦ)
 refine sit (dkI b m p' c' s') S (wstep_c b2 b3 b m n p' c' s' turn bs q e i _ hn ht hbs hqe (by omega) (S.it (dkI b m p' c' s')) (hfs _ (by simp)) (hfs _ (by simp)) (hfs _ (by simp))) rfl ?_;clear S hfs;rintro _ a w ⟨rfl,p2,c2,hh,hn2⟩ hS
 have S:=hS (dkI b m p2 c2 (wstepF n turn bs i s').1) hh hn2
 clear hS
 refine sq S ?_;clear S;intro a S;refine kN (xtn (kS (kR ?_)));(iterate 2 (refine sq S ?_;clear S;intro a S));refine kN (xtn ?_)
 refine kC S (fun h6=>?_) (fun h6=>?_)
 refine kS (kR ?_);(iterate 2 (refine sq S ?_;clear S;intro a S));refine kN (xtn (kT (xbr (xtr (xtr (xbr (xtr ?_)))))))
 have he:(wstepF n turn bs i s').2≠0:=by simpa using h6
 rw[if_neg he]at hre
 have h1:=S.itNew (dkI b m p2 c2 (wstepF n turn bs i s').1) rfl
 refine end1 S (fun _=>?_)
 rw[hre]
 exact ⟨rfl,p2,c2,hh,h1⟩
 refine kK (xbn (xtn (kR ?_)));(iterate 2 (refine sq S ?_;clear S;intro a S));refine kN (xtn ?_)
 rw[show IntKind.i64.wrap ((i:Int)+1)=((i+1:Nat):Int) from by rw[w64 _ (by omega) (by omega)];rfl]at S
 have he:(wstepF n turn bs i s').2=0:=by simpa using h6
 rw[if_pos he]at hre
 have:=hst i s'
 exact ⟨i+1,(wstepF n turn bs i s').1,p2,c2,S.uu,⟨by omega,hre,by omega⟩,S.sub _ _,by omega⟩
 refine kE (xte (xte (xbe (xtn (kS (kR (sq S ?_)))))));clear S;intro a S;refine kN (xtn (kT ?_))
 have hi2:i=2:=by have:=of_decide_eq_false h3;omega
 subst hi2
 have h1:=S.itNew (dkI b m p' c' s') rfl
 have hh:=S.it (dkI b m p' c' s')
 refine end1 S (fun _=>?_)
 rw[hre]
 exact ⟨rfl,p',c',hh,h1⟩
structure LBy where
 p:Option Addr
 c:Nat
 bs:List UInt8
abbrev cBy (x:LBy):List Value:=[.slice x.p x.bs.length x.c]
instance encBy:Enc LBy:=⟨1,cBy,fun _=>rfl,fun x u hu=>by obtain rfl:=List.mem_singleton.1 hu;rfl⟩
instance layBy:Lay LBy:={ encBy with
 dflt:=⟨none,0,[]⟩
 inn:=fun _ _=>True
 mono:=fun _ _ _ _ _=>trivial }
instance:SzE LBy 1:=⟨rfl,by decide⟩
instance {x:LBy} : CellsOf x [.slice x.p x.bs.length x.c]:=⟨rfl⟩
def entI (said:List LBy):Wk.Item where
 foot:=fun k=>∃ x∈said,∃ ad,x.p=some ad∧ad.block=k
 holds:=fun w=>∀ x∈said,(∀ ad,x.p=some ad→ad.block < w.heap.size)∧GlF x.p x.bs w
theorem gl_loc {w1 w2:World} {p:Option Addr} {bs:List UInt8} (hp:∀ ad,p=some ad→w2.heap[ad.block]? = w1.heap[ad.block]?) (h:GlF p bs w1):GlF p bs w2:=
 ⟨⟨h.1.1,fun ad ha j u hj=>by
  have h1:=h.1.2 ad ha j u hj
  have h2:(ad.add j).block=ad.block:=by unfold Addr.add;split <;> rfl
  unfold World.cell? at h1⊢
  rw[h2]at h1⊢
  rw[hp ad ha];exact h1⟩,fun _ _=>trivial⟩
instance itEnt {said:List LBy} : ItOk (entI said):=⟨fun w1 w2 h h1 x hx=>⟨fun ad ha=>by
  have h2:=(h1 x hx).1 ad ha
  have h3:=h ad.block ⟨x,hx,ad,ha,rfl⟩
  rw[Array.getElem?_eq_getElem h2]at h3
  exact (Array.getElem?_eq_some_iff.1 h3).1,gl_loc (fun ad ha=>h ad.block ⟨x,hx,ad,ha,rfl⟩) (h1 x hx).2⟩,fun w h k ⟨x,hx,ad,ha,hk⟩=>hk▸(h x hx).1 ad ha⟩
structure WS where
 n:Nat
 turn:Int
 said:List LBy
 fin:Nat
 broken:Bool
abbrev cWal (b:Nat) (q:Option Addr) (e:Nat) (x:WS):List Value:=[.pointer (some ⟨b,0,none⟩),.int .i64 (x.n:Int),.int .u32 x.turn,.slice q x.said.length e,.int .i64 (x.fin:Int),.bool x.broken]
abbrev walI (g b:Nat) (q:Option Addr) (e:Nat) (x:WS):Wk.Item:=both (Wk.box g 134 (cWal b q e x)) (both (Wk.row 25 1 q x.said.length e (encL x.said)) (entI x.said))
theorem St.addE {w0:World} {M0:Nat→Prop} {ds:List Deferred} {a:Act} {w:World} {l:List Value} {bs:List Wk.Item} {fs:List (World→Prop)} (S:St w0 M0 ds a w l bs fs) (y:Wk.Item) [oy:ItOk y] (hy:y.holds w) (hf:∀ k,¬y.foot k):St w0 M0 ds a w l (y::bs) fs:=
 ⟨S.slots,S.defers,S.wd.addItem (Agree.refl _ _) hy (fun k hk=>(hf k hk).elim) (fun k hk=>(hf k hk).elim) oy.loc⟩
def fmtF (n:Nat) (s:DS):DS × Int:=if (layF s 0 (List.replicate (2*n+2) zB)).2=0 then begF n 0 [] (layF s 0 (List.replicate (2*n+2) zB)).1 else layF s 0 (List.replicate (2*n+2) zB)
def newW (n:Nat):WS:=⟨n,0,[⟨none,0,[]⟩],1,false⟩
theorem format_c (b m n:Nat) (p:Option Addr) (c:Nat) (s:DS) (w0:World) (hm:mayF s n=true) (hl:s.loose.length≤980000) (hd:(dkI b m p c s).holds w0) :
  Ret Tryz.prog 18 [.pointer (some ⟨b,0,none⟩),.int .i64 (n:Int)] w0 (dkI b m p c s).foot fun v w'=>
   ((fmtF n s).2≠0∧v=.tuple ⟨[.pointer none,.int .i64 (fmtF n s).2]⟩∧∃ p' c',(dkI b m p' c' (fmtF n s).1).holds w'∧∀ k,(dkI b m p' c' (fmtF n s).1).foot k→(dkI b m p c s).foot k∨w0.heap.size≤k)∨
   ((fmtF n s).2=0∧∃ g p' c' q e,v=.tuple ⟨[.pointer (some ⟨g,0,none⟩),.int .i64 0]⟩∧(both (dkI b m p' c' (fmtF n s).1) (walI g b q e (newW n))).holds w'∧∀ k,(both (dkI b m p' c' (fmtF n s).1) (walI g b q e (newW n))).foot k→(dkI b m p c s).foot k∨w0.heap.size≤k):=by
 have hn:n≤1000:=by simp[mayF]at hm;omega
 have hlo:=layF_loose s 0 (List.replicate (2*n+2) zB)
 rw[List.length_replicate]at hlo
 refine enter Tryz.func18 rfl rfl (Wd.itLent (x:=dkI b m p c s) (fs:=[]) hd (by simp)) (fun a S=>?_)
 simp only[Tryz.ntmps18,qqA,qqB,Nat.reduceAdd,Nat.reduceSub,qqC,qqD,qqE,qqF]at S
 refine kS (kR ?_);(iterate 2 (refine sq S ?_;clear S;intro a S));refine kN (xtn (kS (kB (kS (kR ?_)))));(iterate 3 (refine sq S ?_;clear S;intro a S));refine kN (xtn ?_);refine c_condF S ?_;refine kS (kR ?_);(iterate 2 (refine sq S ?_;clear S;intro a S))
 have hdk:(dkI b m p c s).holds _:=S.it (dkI b m p c s)
 refine sr S (may_c b m p c s.loose.length s n _ (BoxF.stable hdk.1 (fun h=>h))) ?_;clear S;rintro _ a w rfl S
 refine sq S ?_;clear S;intro a S
 rw[hm,show (!true)=false from rfl]at S
 refine sq S ?_;clear S;intro a S;refine kN (xtn ?_);refine c_condF S ?_;refine kK (xbn (xtn (kS (kS (kR ?_)))));(iterate 4 (refine sq S ?_;clear S;intro a S))
 rw[w64 (2*(n:Int)) (by omega) (by omega)]at S
 refine sq S ?_;clear S;intro a S
 rw[show IntKind.i64.wrap (2*(n:Int)+2)=((2*n+2:Nat):Int) from by rw[w64 _ (by omega) (by omega)];rfl]at S
 have hlt:=foots_lt S
 refine sr S (only_f zB (2*n+2) _) ?_;clear S;rintro _ a w ⟨h0,h1,rfl,⟨n0,n1⟩,e0,e1⟩ S
 replace S:=S.add (Φ:=BoxF h0 3 [.int .i64 ((2*n+2:Nat):Int)]) (BoxF.stable e0 (fun hm=>by have:=hlt _ hm;omega))
 replace S:=S.add (Φ:=BoxF h1 129 (encL zB.l)) (BoxF.stable e1 (fun hm=>by have:=hlt _ hm;omega))
 refine sit (dkI b m p c s) S (lay_c 173 [.pointer (some ⟨h0,0,none⟩),.pointer (some ⟨h1,0,none⟩)] (List.replicate (2*n+2) zB) b m p c s 0 [BoxF h1 129 (encL zB.l),BoxF h0 3 [.int .i64 ((2*n+2:Nat):Int)]] _ (by rw[List.length_replicate];omega) (by rw[List.length_replicate];omega) (S.it (dkI b m p c s)) (fun Φ hΦ=>S.lend (dkI b m p c s) (S.wd.facts Φ hΦ)) (fun M w1 hM hF=>only_it h0 h1 zB (2*n+2) (by omega) w1 M hM (hF _ (by simp)) (hF _ (by simp)))) rfl ?_;clear S;rintro _ a w ⟨rfl,p2,c2,hh,hn2⟩ hS
 have S:=hS (dkI b m p2 c2 (layF s 0 (List.replicate (2*n+2) zB)).1) hh hn2
 clear hS
 refine sq S ?_;clear S;intro a S;refine kN (xtn (kS (kR ?_)));(iterate 2 (refine sq S ?_;clear S;intro a S));refine kN (xtn ?_)
 refine kC S (fun h6=>?_) (fun h6=>?_)
 refine kS (kR ?_);(iterate 3 (refine sq S ?_;clear S;intro a S));refine kN (xtn (kT (xtr ?_)))
 have he:(layF s 0 (List.replicate (2*n+2) zB)).2≠0:=by simpa using h6
 have h1:=S.itNew (dkI b m p2 c2 (layF s 0 (List.replicate (2*n+2) zB)).1) rfl
 refine end2 S (fun _=>.inl ?_)
 rw[fmtF,if_neg he]
 exact ⟨he,rfl,p2,c2,hh,h1⟩
 refine kK (xtn (kS ?_))
 have he:(layF s 0 (List.replicate (2*n+2) zB)).2=0:=by simpa using h6
 have hfm:fmtF n s=begF n 0 [] (layF s 0 (List.replicate (2*n+2) zB)).1:=by rw[fmtF,if_pos he]
 refine kR ?_;(iterate 3 (refine sq S ?_;clear S;intro a S));refine sa S ?_;clear S;intro b7 a w S;refine sw S ?_;clear S;intro a w S;refine kN (xtn (kS (kS (kR (sq S ?_)))));clear S;intro a S
 refine sit (dkI b m p2 c2 (layF s 0 (List.replicate (2*n+2) zB)).1) S (begin_c b m n p2 c2 (layF s 0 (List.replicate (2*n+2) zB)).1 0 [] none 0 _ hn (by omega) (by simp) (by simp) (by omega) (S.it (dkI b m p2 c2 (layF s 0 (List.replicate (2*n+2) zB)).1)) (fun w' _=>⟨slNil (fun _=>False) w' w' (Agree.refl _ _),fun _ h=>by cases h⟩)) rfl ?_;clear S;rintro _ a w ⟨rfl,p3,c3,hh,hn3⟩ hS
 have S:=hS (dkI b m p3 c3 (begF n 0 [] (layF s 0 (List.replicate (2*n+2) zB)).1).1) hh hn3
 clear hS
 rw[←hfm]at S
 refine sq S ?_;clear S;intro a S;refine kN (xtn (kS (kR ?_)));(iterate 2 (refine sq S ?_;clear S;intro a S));refine kN (xtn ?_)
 refine kC S (fun h10=>?_) (fun h10=>?_)
 refine kS (kR ?_);(iterate 3 (refine sq S ?_;clear S;intro a S));refine kN (xtn (kT (xtr ?_)))
 have he2:(fmtF n s).2≠0:=by simpa using h10
 have h1:=S.itNew (dkI b m p3 c3 (fmtF n s).1) rfl
 have hh:=S.it (dkI b m p3 c3 (fmtF n s).1)
 refine end2 S (fun _=>.inl ?_)
 exact ⟨he2,rfl,p3,c3,hh,h1⟩
 refine kK (xtn (kS (kR (sq S ?_))));clear S;intro a S;refine sn S ?_;clear S;intro b36 a w S;refine sq S ?_;clear S;intro a S;refine sa S ?_;clear S;intro b38 a w S;(iterate 2 (refine sq S ?_;clear S;intro a S));refine kN (xtn (kT ?_))
 have he2:(fmtF n s).2=0:=by simpa using h10
 replace S:=S.boxRow b36 1 1 rfl (by decide)
 replace S:=St.addE S (entI (newW n).said) (fun x hx=>by obtain rfl:=List.mem_singleton.1 hx;exact ⟨fun ad h=>(by cases h),gl_nil⟩) (fun k ⟨x,hx,ad,h,_⟩=>by obtain rfl:=List.mem_singleton.1 hx;cases h)
 replace S:=S.sub [entI (newW n).said,Wk.box b38 134 [.pointer (some ⟨b,0,none⟩),.int .i64 (n:Int),.int .u32 0,.slice (some ⟨b36,0,none⟩) 1 1,.int .i64 1,.bool false],Wk.row 25 1 (some ⟨b36,0,none⟩) 1 1 [.slice none 0 0],dkI b m p3 c3 (fmtF n s).1] []
 have S:=S.perm [Wk.box b38 134 (cWal b (some ⟨b36,0,none⟩) 1 (newW n)),Wk.row 25 1 (some ⟨b36,0,none⟩) 1 1 [.slice none 0 0],entI (newW n).said,dkI b m p3 c3 (fmtF n s).1] ((List.perm_append_comm (l₁:=[Wk.box b38 134 (cWal b (some ⟨b36,0,none⟩) 1 (newW n)),Wk.row 25 1 (some ⟨b36,0,none⟩) 1 1 [.slice none 0 0]]) (l₂:=[entI (newW n).said])).append_right [dkI b m p3 c3 (fmtF n s).1])
 have hh:=St.hold4 S rfl rfl rfl rfl
 have h1:=St.new4 S rfl rfl rfl rfl
 refine end2 S (fun _=>.inr ?_)
 exact ⟨he2,b38,p3,c3,some ⟨b36,0,none⟩,1,rfl,hh,h1⟩
theorem wleft_c (g b:Nat) (q:Option Addr) (e:Nat) (x:WS) (_hs:x.said.length≤1000000∧0 < x.said.length) (hf:x.fin≤1000000) (hn:x.n≤1000) (w0:World) (hb:Stable (fun _=>False) w0 (BoxF g 134 (cWal b q e x))):Ret Tryz.prog 100 [.pointer (some ⟨g,0,none⟩)] w0 (fun _=>False) fun v _=>v=.int .i64 ((x.n:Int) - x.fin):=by
 refine enter Tryz.func100 rfl rfl (Wd.begin (fs:=[BoxF g 134 (cWal b q e x)]) (by simpa using hb)) (fun a S=>?_)
 simp only[Tryz.ntmps100,qqA,qqB,Nat.reduceAdd,Nat.reduceSub,qqC,qqD,qqE,qqF]at S
 refine kS (kR (sq S ?_));clear S;intro a S;refine kN (xtn (kS (kS (kR ?_))));(iterate 2 (refine sq S ?_;clear S;intro a S));refine kN (xtn ?_);refine c_condF S ?_;refine kK (xtn (kS ?_));refine c_drawD [(0,true),(1,true),(2,true),(3,true),(4,true),(5,true),(6,true),(7,true),(8,true),(9,true),(10,true)] [] S ?_;clear S;intro w S;(iterate 11 (refine dq S ?_;clear S;intro a S));refine dn (xtn (kT ?_))
 refine end1 S (fun _=>?_)
 rw[w64 _ (by omega) (by omega)]
theorem wbroken_c (g b:Nat) (q:Option Addr) (e:Nat) (x:WS) (w0:World) (hb:Stable (fun _=>False) w0 (BoxF g 134 (cWal b q e x))):Ret Tryz.prog 99 [.pointer (some ⟨g,0,none⟩)] w0 (fun _=>False) fun v _=>v=.bool x.broken:=by
 refine enter Tryz.func99 rfl rfl (Wd.begin (fs:=[BoxF g 134 (cWal b q e x)]) (by simpa using hb)) (fun a S=>?_)
 simp only[Tryz.ntmps99,qqA,qqB,Nat.reduceAdd,Nat.reduceSub,qqC,qqD,qqE,qqF]at S
 refine kS (kR (sq S ?_));clear S;intro a S;refine kN (xtn (kS (kR ?_)));(iterate 3 (refine sq S ?_;clear S;intro a S));refine gT S ?_;refine sq S ?_;clear S;intro a S;refine gT S ?_;refine sq S ?_;clear S;intro a S;refine gT S ?_;refine sq S ?_;clear S;intro a S;refine gT S ?_;(iterate 3 (refine sq S ?_;clear S;intro a S));refine kN (xtn (kT ?_))
 refine end1 S (fun _=>?_)
 rfl
def refF (x:WS) (bs:List UInt8):Int:=if 40000 < bs.length then 3 else if x.broken then 8 else 0
theorem refuses_c (g b:Nat) (q:Option Addr) (e:Nat) (x:WS) (y:LBy) (w0:World) (hb:Stable (fun _=>False) w0 (BoxF g 134 (cWal b q e x))):Ret Tryz.prog 77 [.pointer (some ⟨g,0,none⟩),.slice y.p y.bs.length y.c] w0 (fun _=>False) fun v _=>v=.int .i64 (refF x y.bs):=by
 refine enter Tryz.func77 rfl rfl (Wd.begin (fs:=[BoxF g 134 (cWal b q e x)]) (by simpa using hb)) (fun a S=>?_)
 simp only[Tryz.ntmps77,qqA,qqB,Nat.reduceAdd,Nat.reduceSub,qqC,qqD,qqE,qqF]at S
 refine kS (kR (sq S ?_));clear S;intro a S;refine kN (xtn (kS (kB (kS (kR ?_)))));(iterate 3 (refine sq S ?_;clear S;intro a S));refine kN (xtn ?_);refine c_condF S ?_;refine kS (kR ?_);(iterate 4 (refine sq S ?_;clear S;intro a S));refine kN (xtn ?_)
 refine kC S (fun h3=>?_) (fun h3=>?_)
 refine kS (kR (sq S ?_));clear S;intro a S;refine kN (xtn (kT (xbr (xtr ?_))))
 have h:40000 < y.bs.length:=by have:=of_decide_eq_true h3;omega
 refine end1 S (fun _=>?_)
 rw[refF,if_pos h]
 refine kS (kR ?_);(iterate 5 (refine sq S ?_;clear S;intro a S));refine kN (xtn ?_)
 refine kC S (fun h5=>?_) (fun h5=>?_)
 refine kS (kR (sq S ?_));clear S;intro a S;refine kN (xtn (kT (xbr (xtr ?_))))
 have h:¬40000 < y.bs.length:=by have:=of_decide_eq_false h3;omega
 have hx:x.broken=true:=h5
 refine end1 S (fun _=>?_)
 rw[refF,if_neg h,if_pos hx]
 refine kK (xbn (xtn (kS (kR (sq S ?_)))));clear S;intro a S;refine kN (xtn (kT ?_))
 have h:¬40000 < y.bs.length:=by have:=of_decide_eq_false h3;omega
 have hx:x.broken=false:=h5
 refine end1 S (fun _=>?_)
 rw[refF,if_neg h,hx];rfl
def brkF (x:WS) (v:Int):WS:={ x with broken:=x.broken||decide (v≠0) }
theorem snap_c (g b:Nat) (q:Option Addr) (e:Nat) (x:WS) (y:LBy) (h0:0 < x.said.length) (hy:nthG x.said 0=y) (hl:y.bs.length≤1000000) (w0:World) (f1:Stable (fun _=>False) w0 (BoxF g 134 (cWal b q e x))) (f2:Stable (fun _=>False) w0 (GlF q x.said)) (f3:Stable (fun _=>False) w0 (GlF y.p y.bs)) :
  Ret Tryz.prog 86 [.pointer (some ⟨g,0,none⟩)] w0 (fun _=>False) fun v w'=>∃ p' c',v=.slice p' y.bs.length c'∧w'.ownsRow 0 5 1 (.slice p' y.bs.length c') y.bs.length (encL y.bs)∧∀ ad,p'=some ad→w0.heap.size≤ad.block:=by
 have hK:KLt 0 x.said.length:=⟨h0⟩
 refine enter Tryz.func86 rfl rfl (Wd.begin (fs:=[BoxF g 134 (cWal b q e x),GlF q x.said,GlF y.p y.bs]) (by simp;exact ⟨f1,f2,f3⟩)) (fun a S=>?_)
 simp only[Tryz.ntmps86,qqA,qqB,Nat.reduceAdd,Nat.reduceSub,qqC,qqD,qqE,qqF]at S
 refine kS (kR (sq S ?_));clear S;intro a S;refine kN (xtn (kS (kS (kR ?_))));(iterate 2 (refine sq S ?_;clear S;intro a S));refine kN (xtn ?_);refine c_condF S ?_;refine kK (xtn (kS (kR ?_)));(iterate 6 (refine sq S ?_;clear S;intro a S))
 rw[hy]at S
 replace S:=S.addNil 5 1
 refine sap S (by simp only[maxLen];omega) (by omega) ?_;clear S;rintro p3 c3 a w - S
 rw[qqF,Nat.zero_add]at S
 refine sq S ?_;clear S;intro a S;refine kN (xtn (kT ?_))
 have hrow:=S.row p3 y.bs.length
 have hnew:=S.rowNew p3 y.bs.length
 refine end1 S (fun _=>?_)
 exact ⟨p3,c3,rfl,hrow,fun ad h=>(hnew ad h).elim (fun h=>h.elim) id⟩
def AllBy (came:List LBy):World→Prop:=fun w=>∀ y∈came,GlF y.p y.bs w
def toldL (came:List LBy):List (Nat × LBy):=(List.range came.length).map fun k=>(k+1,nthG came k)
def toldE (x:Nat × LBy) (vs:List Value) (W0 W1:World):Prop:=∃ p' c',vs=[.int .i64 (x.1:Int),.slice p' x.2.bs.length c']∧W1.ownsRow 0 5 1 (.slice p' x.2.bs.length c') x.2.bs.length (encL x.2.bs)∧∀ ad,p'=some ad→W0.heap.size≤ad.block
theorem all_it (g:Nat) (came:List LBy) (q:Option Addr) (e:Nat) (hl:came.length≤1000000) (hby:∀ y∈came,y.bs.length≤1000000) (w0:World) (M:Nat→Prop) (hM:∀ k,M k→k < w0.heap.size) (f0:Stable M w0 (BoxF g 33 [.slice q came.length e])) (f1:Stable M w0 (GlF q came)) (f2:Stable M w0 (AllBy came)) :
  IterRet Tryz.prog 188 [.pointer (some ⟨g,0,none⟩)] w0 M toldE (toldL came):=by
 intro L J Jx hy hJ
 have hF:∀ Φ∈[BoxF g 33 [.slice q came.length e],GlF q came,AllBy came],Stable M w0 Φ:=by simp;exact ⟨f0,f1,f2⟩
 refine (callsIn_wide (n:=0)).2 ?_
 refine enter Tryz.func188 rfl rfl (Wd.beginM (M:=M) (fs:=[BoxF g 33 [.slice q came.length e],GlF q came,AllBy came]) hM hF) (fun a S=>?_)
 simp only[Tryz.ntmps188,qqA,qqB,Nat.reduceAdd,Nat.reduceSub,qqC,qqD,qqE,qqF]at S
 refine kS (kR ?_);(iterate 3 (refine sq S ?_;clear S;intro a S));refine kN (xtn (kB ?_))
 refine c_loop (ι:=Nat) (fun k a w=>k≤came.length∧∃ N w1,J k w1∧∃ uu:Nat→Value,St w1 (fun _=>False) [] a w ((.func (.yield L) #[] #[])::(.pointer (some ⟨g,0,none⟩))::uu 2::uu 3::uu 4::(.slice q came.length e)::(.int .i64 (came.length:Nat))::(.int .i64 (k:Nat))::uu 8::uu 9::uu 10::uu 11::uu 12::uu 13::uu 14::uu 15::uu 16::uu 17::uu 18::uu 19::[]) [ext N] [BoxF g 33 [.slice q came.length e],GlF q came,AllBy came]) (fun k=>came.length - k) 0 ?_ ?_
 exact ⟨Nat.zero_le _,M,w0,hJ,S.uu,S⟩
 clear S
 rintro k a w ⟨hk,N,w1,hJk,uu,S⟩
 refine kS (kR (sq S ?_));clear S;intro a S;refine kN (xtn (kS ?_))
 refine kC S (fun h1=>?_) (fun h1=>?_)
 refine kK (xtn (kS (kB (kS ?_))))
 have hkn:k < came.length:=by have:=of_decide_eq_true h1;omega
 have hK:KLt k came.length:=⟨hkn⟩
 have hx:(toldL came)[k]? = some (k+1,nthG came k):=by rw[toldL,List.getElem?_map,List.getElem?_range hkn];rfl
 have hyl:=hby _ (nthG_mem hkn)
 replace S:=S.add (Φ:=GlF (nthG came k).p (nthG came k).bs) ((S.mem.fact (AllBy came)).imp fun _ h=>h _ (nthG_mem hkn))
 refine kR ?_;(iterate 5 (refine sq S ?_;clear S;intro a S));refine kN (xtn (kS (kR ?_)));(iterate 3 (refine sq S ?_;clear S;intro a S))
 rw[show IntKind.i64.wrap ((k:Int)+1)=((k+1:Nat):Int) from by rw[w64 _ (by omega) (by omega)];rfl]at S
 refine sq S ?_;clear S;intro a S
 replace S:=S.addNil 5 1
 refine sap S (by simp only[maxLen];omega) (by omega) ?_;clear S;rintro p3 c3 a w - S
 rw[qqF,Nat.zero_add]at S
 have hrow:=S.row p3 (nthG came k).bs.length
 have hnew:=S.rowNew p3 (nthG came k).bs.length
 refine sy S (M:=M) (wI:=w0) (fs0:=[BoxF g 33 [.slice q came.length e],GlF q came,AllBy came]) hF (hy _ _ _ w1 _ hx hJk S.wd.agree ⟨p3,c3,rfl,hrow,fun ad h=>(hnew ad h).elim (fun h=>h.elim) id⟩) ?_;clear S hrow hnew;intro ok N' a w2 hT hX S
 refine sq S ?_;clear S;intro a S;refine kN (xtn ?_)
 refine kC S (fun h3=>?_) (fun h3=>?_)
 refine kT (xbr (xtr (xtr (xbr ?_))))
 exact endI S ⟨w2,S.wd.agree,.inr (hX (by simpa using h3))⟩
 refine kK (xbn (xtn (kR ?_)));(iterate 2 (refine sq S ?_;clear S;intro a S));refine kN (xtn ?_)
 rw[w64 ((k:Int)+1) (by omega) (by omega)]at S
 exact ⟨k+1,⟨by omega,N',w2,hT (by simpa using h3),S.uu,S⟩,by omega⟩
 refine kE (xte (xte (xbe ?_)))
 have hkn:k=came.length:=by have:=of_decide_eq_false h1;omega
 refine endI S ⟨w1,S.wd.agree,.inl ?_⟩
 rw[toldL,List.length_map,List.length_range,←hkn];exact hJk
def allV (g:Nat):Value:=.func (.func 188) #[] ⟨[.pointer (some ⟨g,0,none⟩)]⟩
theorem all_c (g b:Nat) (q:Option Addr) (e:Nat) (x:WS) (h0:0 < x.said.length) (hc:x.said.length≤e) (w0:World) (f1:Stable (fun _=>False) w0 (BoxF g 134 (cWal b q e x))) :
  Ret Tryz.prog 94 [.pointer (some ⟨g,0,none⟩)] w0 (fun _=>False) fun v w'=>∃ h,v=allV h∧w0.heap.size≤h∧BoxF h 33 [.slice (if e=1 then q else q.map (·.add (1*1))) (x.said.length - 1) (e - 1)] w':=by
 have hLa:LeC 1 x.said.length:=⟨h0⟩
 have hLb:LeC x.said.length e:=⟨hc⟩
 have hLc:LeC 1 e:=⟨by omega⟩
 refine enter Tryz.func94 rfl rfl (Wd.begin (fs:=[BoxF g 134 (cWal b q e x)]) (by simpa using f1)) (fun a S=>?_)
 simp only[Tryz.ntmps94,qqA,qqB,Nat.reduceAdd,Nat.reduceSub,qqC,qqD,qqE,qqF]at S
 refine kS (kR (sq S ?_));clear S;intro a S;refine kN (xtn (kS (kR ?_)));refine sa S ?_;clear S;intro b3 a w S;refine kN (xtn (kS (kS (kR ?_))));(iterate 2 (refine sq S ?_;clear S;intro a S));refine kN (xtn ?_);refine c_condT S ?_;refine kR ?_;(iterate 5 (refine sq S ?_;clear S;intro a S));refine sw S ?_;clear S;intro a w S;refine kN (xtn (kS (kR ?_)));(iterate 2 (refine sq S ?_;clear S;intro a S));refine kN (xtn (kT ?_))
 have hn:=(S.boxNew b3).elim (fun h=>h.elim) id
 have hh:=S.boxF b3
 exact end1 S (fun _=>⟨b3,rfl,hn,hh⟩)
abbrev cBlk (x:Blk):List Value:=encL x.l
instance encBlk:Enc Blk:=⟨64,cBlk,fun x=>x.len,fun _x u hu=>encL_one _ u hu⟩
instance layBlk:Lay Blk:={ encBlk with
 dflt:=zB
 inn:=fun _ _=>True
 mono:=fun _ _ _ _ _=>trivial }
instance:SzE Blk 64:=⟨rfl,by decide⟩
instance {x:Blk} : CellsOf x (encL x.l):=⟨rfl⟩
instance eqgBlk:EqG Tryz.prog 129:=⟨by kernel_rfl⟩
instance lenBlk {x:Blk} : LenIs (encL x.l) 64:=⟨x.len⟩
theorem u8_nat (n:Int):((Wk.u8 n).toNat:Int)=n % 256:=by
 unfold Wk.u8
 rw[UInt8.toNat_ofNat']
 omega
theorem be4 (v:Int):be 4 v=[Wk.u8 (v.fdiv 16777216),Wk.u8 (v.fdiv 65536),Wk.u8 (v.fdiv 256),Wk.u8 (v.fdiv 1)]:=rfl
theorem be2 (v:Int):be 2 v=[Wk.u8 (v.fdiv 256),Wk.u8 (v.fdiv 1)]:=rfl
theorem num1 (c:UInt8) (bs:List UInt8) (x:Int):numB (c::bs) x=numB bs (IntKind.u64.wrap (IntKind.u64.wrap (256*x)+(c.toNat:Int))):=rfl
theorem u32B_be (v:Int) (h:0≤v∧v≤4294967295) (r:List UInt8):u32B (be 4 v++r)=v:=by
 have h1:=Int.fdiv_eq_ediv_of_nonneg v (b:=16777216) (by omega)
 have h2:=Int.fdiv_eq_ediv_of_nonneg v (b:=65536) (by omega)
 have h3:=Int.fdiv_eq_ediv_of_nonneg v (b:=256) (by omega)
 have h4:=Int.fdiv_eq_ediv_of_nonneg v (b:=1) (by omega)
 rw[u32B,List.take_left' (be_len 4 v),be4,num1,num1,num1,num1,u8_nat,u8_nat,u8_nat,u8_nat,h1,h2,h3,h4]
 show IntKind.u32.wrap (numB [] _)=v
 rw[show ∀ x,numB [] x=x from fun _=>rfl]
 rw[wu64 (256*0) (by omega) (by omega),wu64 (256*0+_) (by omega) (by omega),wu64 (256*(256*0+_)) (by omega) (by omega),wu64 (256*(256*0+_)+_) (by omega) (by omega)]
 rw[wu64 (256*(256*(256*0+_)+_)) (by omega) (by omega),wu64 (256*(256*(256*0+_)+_)+_) (by omega) (by omega)]
 rw[wu64 (256*(256*(256*(256*0+_)+_)+_)) (by omega) (by omega),wu64 (256*(256*(256*(256*0+_)+_)+_)+_) (by omega) (by omega)]
 rw[wu32 _ (by omega) (by omega)]
 omega
theorem u16B_be (v:Int) (h:0≤v∧v≤65535) (r:List UInt8):u16B (be 2 v++r)=v:=by
 have h3:=Int.fdiv_eq_ediv_of_nonneg v (b:=256) (by omega)
 have h4:=Int.fdiv_eq_ediv_of_nonneg v (b:=1) (by omega)
 rw[u16B,List.take_left' (be_len 2 v),be2,num1,num1,u8_nat,u8_nat,h3,h4]
 rw[show ∀ x,numB [] x=x from fun _=>rfl]
 rw[wu64 (256*0) (by omega) (by omega),wu64 (256*0+_) (by omega) (by omega),wu64 (256*(256*0+_)) (by omega) (by omega),wu64 (256*(256*0+_)+_) (by omega) (by omega)]
 rw[wu16 _ (by omega) (by omega)]
 omega
theorem be4_inj {u v:Int} (hu:0≤u∧u≤4294967295) (hv:0≤v∧v≤4294967295) (h:be 4 u=be 4 v):u=v:=by
 rw[←u32B_be u hu [],←u32B_be v hv [],h]
theorem wbe2_inj {u v:Int} (hu:0≤u∧u≤65535) (hv:0≤v∧v≤65535) (h:be 2 u=be 2 v):u=v:=by
 rw[←u16B_be u hu [],←u16B_be v hv [],h]
theorem seal_drop {bs:List UInt8} (h:bs.length=60):(sealF bs).l.drop 4=bs:=by
 rw[sealF_l h,List.drop_left' (by rw[List.length_drop,shaF_len])]
theorem Blk.ext' {x y:Blk} (h:x.l=y.l):x=y:=by cases x;cases y;cases h;rfl
theorem leaf_drop (t j:Int) (bs:List UInt8) (k:Nat):(leafF t j bs k).l.drop 4=leafB t j bs.length (bs.drop (48*k)):=seal_drop (leafB_len _ _ _ _)
theorem leaf_parts {t j t' j':Int} {bs bs':List UInt8} {k k':Nat} (h:leafF t j bs k=leafF t' j' bs' k') :
  be 4 t=be 4 t'∧be 4 j=be 4 j'∧be 2 (bs.length:Int)=be 2 (bs'.length:Int)∧be 2 ((bs.drop (48*k)).length:Int)=be 2 ((bs'.drop (48*k')).length:Int)∧pad48 (bs.drop (48*k))=pad48 (bs'.drop (48*k')):=by
 have h1:leafB t j bs.length (bs.drop (48*k))=leafB t' j' bs'.length (bs'.drop (48*k')):=by rw[←leaf_drop,←leaf_drop,h]
 unfold leafB at h1
 obtain ⟨h1,e5⟩:=List.append_inj' h1 (by rw[pad48_len,pad48_len])
 obtain ⟨h1,e4⟩:=List.append_inj' h1 (by rw[be_len,be_len])
 obtain ⟨h1,e3⟩:=List.append_inj' h1 (by rw[be_len,be_len])
 obtain ⟨e1,e2⟩:=List.append_inj' h1 (by rw[be_len,be_len])
 exact ⟨e1,e2,e3,e4,e5⟩
theorem leaf_d12 (t j:Int) (bs:List UInt8) (k:Nat):(leafF t j bs k).l.drop 12=be 2 (bs.length:Int)++(be 2 ((bs.drop (48*k)).length:Int)++pad48 (bs.drop (48*k))):=by
 rw[show 12=4+8 from rfl,←List.drop_drop,leaf_drop,leafB]
 simp only[List.append_assoc]
 rw[←List.append_assoc (be 4 t),List.drop_left' (by simp[be_len])]
theorem leaf_d16 (t j:Int) (bs:List UInt8) (k:Nat):(leafF t j bs k).l.drop 16=pad48 (bs.drop (48*k)):=by
 rw[show 16=12+4 from rfl,←List.drop_drop,leaf_d12,←List.append_assoc,List.drop_left' (by simp[be_len])]
def sizeAt (x:Blk):Int:=u16B (x.l.drop 12)
theorem sizeAt_leaf (t j:Int) (bs:List UInt8) (k:Nat) (h:bs.length≤40000):sizeAt (leafF t j bs k)=bs.length:=by
 rw[sizeAt,leaf_d12,u16B_be _ (by omega)]
theorem sizeAt_range (x:Blk):0≤sizeAt x∧sizeAt x≤65535:=by
 unfold sizeAt u16B IntKind.wrap
 simp only[IntKind.bits,IntKind.signed,Bool.false_and]
 simp;omega
def gather (xs:List Blk):List UInt8:=(xs.map fun x=>x.l.drop 16).flatten
theorem pads (m:Nat):∀ bs:List UInt8,bs.length≤48*m→(((List.range m).map fun k=>pad48 (bs.drop (48*k))).flatten).take bs.length=bs:=by
 induction m with
 | zero=>intro bs h;obtain rfl:bs=[]:=List.eq_nil_of_length_eq_zero (by omega);rfl
 | succ m ih=>
  intro bs h
  rw[List.range_succ_eq_map,List.map_cons,List.flatten_cons,List.map_map]
  have e:((fun k=>pad48 (bs.drop (48*k))) ∘ Nat.succ)=fun k=>pad48 ((bs.drop 48).drop (48*k)):=by
   funext k;simp only[Function.comp_apply,List.drop_drop];congr 2;show 48*(k+1)=_;omega
  rw[e,show 48*0=0 from rfl,List.drop_zero,List.take_append,pad48_len]
  have h2:=ih (bs.drop 48) (by rw[List.length_drop];omega)
  rw[List.length_drop]at h2
  rw[h2]
  by_cases h48:bs.length≤48
  ·rw[List.drop_of_length_le h48,List.append_nil,pad48,List.take_of_length_le h48,List.take_left' rfl]
  ·rw[List.take_of_length_le (by rw[pad48_len];omega),pad48,show 48 - bs.length=0 from by omega,qqD,List.append_nil,List.take_append_drop]
theorem secN_pos (n:Nat):0 < secN n:=by unfold secN;split <;> omega
theorem secN_mul (n:Nat):n≤48*secN n:=by unfold secN;split <;> omega
theorem secN_le (n:Nat) (h:n≤40000):secN n≤834:=by unfold secN;split <;> omega
theorem gather_leaves (t j:Int) (bs:List UInt8):(gather (leavesF t j bs)).take bs.length=bs:=by
 rw[gather,leavesF,List.map_map,show ((fun x:Blk=>x.l.drop 16) ∘ leafF t j bs)=fun k=>pad48 (bs.drop (48*k)) from funext fun k=>leaf_d16 t j bs k]
 exact pads _ _ (secN_mul _)
theorem leaves_get (t j:Int) (bs:List UInt8) (k:Nat) (h:k < secN bs.length):(leavesF t j bs)[k]? = some (leafF t j bs k):=by
 rw[leavesF,List.getElem?_map,List.getElem?_range h];rfl
def Fresh (T:Int) (x:Blk):Prop:=∀ t j bs k,T≤t→t≤4294967295→1≤j→j≤4294967295→x≠leafF t j bs k
theorem Fresh.mono {T T':Int} {x:Blk} (h:Fresh T x) (hT:T≤T'):Fresh T' x:=fun t j bs k h1 h2 h3 h4=>h t j bs k (Int.le_trans hT h1) h2 h3 h4
theorem fresh_zero (T:Int):Fresh T zB:=by
 intro t j bs k _ _ h3 h4 h
 have h1:(zB.l.drop 4).drop 4=be 4 j++(be 2 (bs.length:Int)++(be 2 ((bs.drop (48*k)).length:Int)++pad48 (bs.drop (48*k)))):=by
  rw[h,leaf_drop,leafB]
  simp only[List.append_assoc]
  rw[List.drop_left' (be_len _ _)]
 have h2:u32B ((zB.l.drop 4).drop 4)=j:=by rw[h1,u32B_be j (by omega)]
 have h5:u32B ((zB.l.drop 4).drop 4)=0:=by decide
 omega
theorem fresh_old (T t j:Int) (bs:List UInt8) (k:Nat) (ht:0≤t∧t≤4294967295) (h:t < T):Fresh T (leafF t j bs k):=by
 intro t' j' bs' k' h1 h2 _ _ e
 have:=be4_inj ht (by omega) (leaf_parts e).1
 omega
theorem fresh_zeroth (T t:Int) (bs:List UInt8) (k:Nat):Fresh T (leafF t 0 bs k):=by
 intro t' j' bs' k' _ _ h3 h4 e
 have:=be4_inj (u:=0) (by omega) (by omega) (leaf_parts e).2.1
 omega
def NoEntry (t j:Int) (tail:List Blk):Prop:=∀ bs:List UInt8,bs.length≤40000→¬leavesF t j bs <+: tail
theorem noEntry_fresh {t j:Int} {tail:List Blk} (ht:t≤4294967295) (hj:1≤j∧j≤4294967295) (h:∀ x∈tail,Fresh t x):NoEntry t j tail:=by
 intro bs _ ⟨r,hr⟩
 have h0:=leaves_get t j bs 0 (secN_pos _)
 have hm:leafF t j bs 0∈tail:=by rw[←hr];exact List.mem_append_left _ (List.mem_of_getElem? h0)
 exact h _ hm t j bs 0 (Int.le_refl _) ht hj.1 hj.2 rfl
def standF (t:Int) (field:List Blk) (at_:Nat) (j:Int):Option (List UInt8):=
 if field.length≤at_ then none else
 if (secF (sizeAt (nthG field at_))).toNat=0∨field.length - at_ < (secF (sizeAt (nthG field at_))).toNat then none else
 if leavesF t j ((gather ((field.drop at_).take (secF (sizeAt (nthG field at_))).toNat)).take (sizeAt (nthG field at_)).toNat)=(field.drop at_).take (secF (sizeAt (nthG field at_))).toNat then
  some ((gather ((field.drop at_).take (secF (sizeAt (nthG field at_))).toNat)).take (sizeAt (nthG field at_)).toNat) else none
theorem secF_nat (n:Nat) (h:n≤40000):secF (n:Int)=(secN n:Int):=by
 rw[secF,if_neg (by omega),Int.toNat_natCast]
theorem stand_some {t:Int} {field:List Blk} {at_:Nat} {j:Int} {bs:List UInt8} (hl:bs.length≤40000) (h:leavesF t j bs <+: field.drop at_):standF t field at_ j=some bs:=by
 obtain ⟨r,hr⟩:=h
 have h0:=leaves_get t j bs 0 (secN_pos _)
 have hlen:(leavesF t j bs).length=secN bs.length:=leavesF_len _ _ _
 have hd:field.length - at_=secN bs.length+r.length:=by rw[←List.length_drop,←hr,List.length_append,hlen]
 have hp:=secN_pos bs.length
 have hn:nthG field at_=leafF t j bs 0:=by
  have h1:field[at_]? = some (leafF t j bs 0):=by
   have h2:(field.drop at_)[0]? = some (leafF t j bs 0):=by rw[←hr,List.getElem?_append_left (by omega),h0]
   rwa [List.getElem?_drop,Nat.add_zero]at h2
  have h3:=nthG_get (xs:=field) (k:=at_) (by omega)
  exact Option.some.inj (h3.symm.trans h1)
 have hs:sizeAt (nthG field at_)=(bs.length:Int):=by rw[hn,sizeAt_leaf _ _ _ _ hl]
 have hf:(secF (sizeAt (nthG field at_))).toNat=secN bs.length:=by rw[hs,secF_nat _ hl,Int.toNat_natCast]
 have ht:(field.drop at_).take (secN bs.length)=leavesF t j bs:=by rw[←hr,List.take_left' hlen]
 have hg:(gather ((field.drop at_).take (secN bs.length))).take bs.length=bs:=by rw[ht,gather_leaves]
 rw[standF,if_neg (by omega),hf,hs,Int.toNat_natCast,hg,ht,if_neg (by omega),if_pos rfl]
theorem stand_get {t:Int} {field:List Blk} {at_:Nat} {j:Int} {bs:List UInt8} (h:standF t field at_ j=some bs):bs.length≤40000∧leavesF t j bs <+: field.drop at_:=by
 rw[standF]at h
 split at h
 cases h
 split at h
 cases h
 rename_i h1 h2
 split at h
 rename_i h3
 have hb:=Option.some.inj h
 rw[hb]at h3
 have hr:=sizeAt_range (nthG field at_)
 have h40:(sizeAt (nthG field at_)).toNat≤40000:=by
  unfold secF at h2
  split at h2
  simp at h2
  omega
 refine ⟨?_,by rw[h3];exact List.take_prefix _ _⟩
 rw[←hb,List.length_take];omega
 cases h
theorem stand_none {t:Int} {field:List Blk} {at_:Nat} {j:Int} (h:NoEntry t j (field.drop at_)):standF t field at_ j=none:=by
 cases hs:standF t field at_ j with
 | none=>rfl
 | some bs=>exact absurd (stand_get hs).2 (h bs (stand_get hs).1)
theorem stand_len {t:Int} {field:List Blk} {at_:Nat} {j:Int} {bs:List UInt8} (h:standF t field at_ j=some bs):at_+secN bs.length≤field.length:=by
 obtain ⟨r,hr⟩:=(stand_get h).2
 have h1:=congrArg List.length hr
 have h2:=secN_pos bs.length
 rw[List.length_append,leavesF_len,List.length_drop]at h1
 omega
def readF (t:Int) (field:List Blk):Nat→Nat→Nat→List (List UInt8) × Nat
 | 0,at_,_=>([],at_)
 | f+1,at_,j=>match standF t field at_ (j:Int) with
  | none=>([],at_)
  | some bs=>(bs::(readF t field f (at_+secN bs.length) (j+1)).1,(readF t field f (at_+secN bs.length) (j+1)).2)
theorem readF_none {t:Int} {field:List Blk} {at_ j:Nat} (h:standF t field at_ (j:Int)=none):∀ f,readF t field f at_ j=([],at_)
 | 0=>rfl
 | f+1=>by rw[readF,h]
def laidF (t:Int):List (List UInt8)→Nat→List Blk
 | [],_=>[]
 | b::l,j=>leavesF t (j:Int) b++laidF t l (j+1)
theorem readF_laid {t:Int} (tail:List Blk):∀ (said:List (List UInt8)) (pre:List Blk) (j f:Nat),(∀ b∈said,b.length≤40000)→(laidF t said j).length+tail.length≤f→NoEntry t ((j+said.length:Nat):Int) tail→
  readF t (pre++(laidF t said j++tail)) f pre.length j=(said,pre.length+(laidF t said j).length):=by
 intro said
 induction said with
 | nil=>
  intro pre j f _ _ hn
  rw[laidF,qqF]
  exact readF_none (stand_none (by rw[List.drop_left];exact hn)) f
 | cons b l ih=>
  intro pre j f hl hf hn
  have hb:=hl b (by simp)
  have hp:=secN_pos b.length
  have hs:standF t (pre++(laidF t (b::l) j++tail)) pre.length (j:Int)=some b:=stand_some hb (by rw[List.drop_left,laidF,List.append_assoc];exact ⟨_,rfl⟩)
  rw[laidF,List.length_append,leavesF_len]at hf
  cases f with
  | zero=>omega
  | succ f=>
   have h1:=ih (pre++leavesF t (j:Int) b) (j+1) f (fun x hx=>hl x (by simp[hx])) (by omega) (by rw[show j+1+l.length=j+(b::l).length from by rw[qqA];omega];exact hn)
   rw[List.length_append,leavesF_len]at h1
   rw[readF,hs]
   simp only[]
   have e:pre++(laidF t (b::l) j++tail)=pre++leavesF t (j:Int) b++(laidF t l (j+1)++tail):=by rw[laidF];simp only[List.append_assoc]
   rw[e,h1]
   rw[show (laidF t (b::l) j).length=secN b.length+(laidF t l (j+1)).length from by rw[laidF,List.length_append,leavesF_len]]
   rw[Nat.add_assoc]
theorem laidF_snoc (t:Int) (b:List UInt8):∀ (l:List (List UInt8)) (j:Nat),laidF t (l++[b]) j=laidF t l j++leavesF t ((j+l.length:Nat):Int) b
 | [],j=>by simp[laidF]
 | x::l,j=>by rw[qqE,laidF,laidF,laidF_snoc t b l (j+1),List.append_assoc,qqA,show j+1+l.length=j+(l.length+1) from by omega]
structure LAct where
 kind:Int
 n:Int
 fill:UInt8
 p:Option Addr
 c:Nat
 keep:List Bool
abbrev cAct (x:LAct):List Value:=[.int .i64 x.kind,.int .i64 x.n,.int .u8 (x.fill.toNat:Int),.slice x.p x.keep.length x.c]
theorem dnew_dk (n:Int) (h:1≤n∧n≤2048) (w0:World):Ret Tryz.prog 45 [.int .i64 n] w0 (fun _=>False) fun v w'=>∃ b m,v=.tuple ⟨[.pointer (some ⟨b,0,none⟩),.int .i64 0]⟩∧(dkI b m none 0 (newD n)).holds w'∧∀ k,(dkI b m none 0 (newD n)).foot k→w0.heap.size≤k:=by
 refine (dnew_c n h w0).mono fun v w'=>?_
 rintro ⟨b,m,rfl,hne,hb,hm,h1,h2⟩
 refine ⟨b,m,rfl,⟨h1,⟨h2,World.ownsRow_nil _ _ _ _,fun k _ ⟨ad,h,_⟩=>by cases h⟩,?_⟩,?_⟩
 rintro k hk (hk2 | ⟨ad,h,_⟩)
 exact hne ((show b=k from hk.symm).trans hk2)
 cases h
 rintro k (hk | hk | ⟨ad,h,_⟩)
 exact (show k=b from hk)▸hb
 exact (show k=m from hk)▸hm
 cases h
instance (priority:=500) opPgE {P:Program} {l:Cx} {bs:List Wk.Item} {fs:List (World→Prop)} {x y:Operand} {t t' ty e:TypeId} {q:Option Addr} [Ev l x (.pointer q)] [Ev l y (.pointer none)] [Und P t (.pointer e)]:OpQ P (.binOp .eql t x y t') ty l bs fs (.bool q.isNone):=by
 cases q
 exact opPnE
 exact opPsE
theorem u32B_range (bs:List UInt8):0≤u32B bs∧u32B bs≤4294967295:=by
 unfold u32B IntKind.wrap
 simp only[IntKind.bits,IntKind.signed,Bool.false_and]
 simp;omega
theorem rdD_loose (s:DS) (k:Int):(rdD s k).loose=s.loose:=by
 unfold rdD
 split
 show (askD s k false).loose=_;exact askD_loose s k false
 exact askD_loose s k false
structure Bst where
 has:Bool
 n:Int
 t:Int
def ptB (b:Nat) (B:Bst):Option Addr:=if B.has then some ⟨b,0,none⟩ else none
theorem ptB_none (b:Nat) (B:Bst):(ptB b B).isNone = !B.has:=by
 unfold ptB
 cases B.has <;> rfl
abbrev cBst (b:Nat) (B:Bst):List Value:=[.pointer (ptB b B),.int .i64 B.n,.int .u32 B.t]
def tellN (x:Blk):Int:=u32B (x.l.drop 4)
def tellT (x:Blk):Int:=u32B ((x.l.drop 4).drop 4)
def candF (s:DS) (i:Nat) (x:Blk) (B:Bst):Bool:=mayF s (tellN x)&&decide (tellT x % 2=(i:Int))&&decide (x.l=(titleF (tellT x) (tellN x)).l)&&(!B.has||decide (B.t < tellT x))
def cntStep (s:DS) (i:Nat) (x:Blk) (B:Bst):Bst:=if candF s i x B then ⟨true,tellN x,tellT x⟩ else B
def cntR:Nat→Nat→DS→Bst→DS × Int × Bst
 | 0,_,s,B=>if B.has then (s,0,B) else (s,140,⟨false,0,0⟩)
 | k+1,i,s,B=>if askE s (i:Int) false=0 then cntR k (i+1) (rdD s i) (cntStep (rdD s i) i (rdB s i) B) else (rdD s i,askE s i false,⟨false,0,0⟩)
def cntF (s:DS):DS × Int × Bst:=cntR 2 0 s ⟨false,0,0⟩
theorem counts_c (b m:Nat) (p:Option Addr) (c:Nat) (s:DS) (w0:World) (hl:s.loose.length≤999000) (hd:(dkI b m p c s).holds w0) :
  Ret Tryz.prog 146 [.pointer (some ⟨b,0,none⟩)] w0 (dkI b m p c s).foot fun v w'=>v=.tuple ⟨[.agg ⟨cBst b (cntF s).2.2⟩,.int .i64 (cntF s).2.1]⟩∧∃ p' c',(dkI b m p' c' (cntF s).1).holds w'∧∀ i,(dkI b m p' c' (cntF s).1).foot i→(dkI b m p c s).foot i∨w0.heap.size≤i:=by
 refine enter Tryz.func146 rfl rfl (Wd.itLent (x:=dkI b m p c s) (fs:=[]) hd (by simp)) (fun a S=>?_)
 simp only[Tryz.ntmps146,qqA,qqB,Nat.reduceAdd,Nat.reduceSub,qqC,qqD,qqE,qqF]at S
 refine kS (kR ?_);refine sa S ?_;clear S;intro b2 a w S;refine sq S ?_;clear S;intro a S;refine kN (xtn (kS (kR ?_)));refine sa S ?_;clear S;intro b4 a w S;refine kN (xtn (kS (kS (kR (sq S ?_)))));clear S;intro a S;refine kN (xtn (kB ?_))
 refine c_forf5 S (fun(i:Nat) (s':DS) (p':Option Addr) (c':Nat) (B:Bst) uu=>[(3,uu 3),(1,uu 5),(0,uu 6),(0,uu 7),(0,uu 8),(0,uu 9),(0,uu 10),(0,.int .i64 (i:Nat)),(0,uu 12),(0,uu 13),(0,uu 14),(0,uu 15),(0,uu 16),(0,uu 17),(0,uu 18),(0,uu 19),(0,uu 20),(0,uu 21),(0,uu 22),(0,uu 23),(0,uu 24),(0,uu 25),(0,uu 26),(0,uu 27),(0,uu 28),(0,uu 29),(0,uu 30),(0,uu 31),(0,uu 32),(0,uu 33),(0,uu 34),(0,uu 35),(0,uu 36),(0,uu 37),(0,uu 38),(0,uu 39),(0,uu 40),(0,uu 41),(0,uu 42),(0,uu 43),(0,uu 44),(0,uu 45),(0,uu 46),(0,uu 47),(0,uu 48),(0,uu 49),(0,uu 50),(0,uu 51),(0,uu 52),(0,uu 53),(0,uu 54),(0,uu 55),(0,uu 56),(0,uu 57),(0,uu 58),(0,uu 59),(0,uu 60),(0,uu 61),(0,uu 62),(0,uu 63)]) (fun(i:Nat) (s':DS) (p':Option Addr) (c':Nat) (B:Bst)=>[Wk.box b4 132 (cBst b B),Wk.box b2 132 [.pointer none,.int .i64 0,.int .u32 0],dkI b m p' c' s']) (fun(i:Nat) (s':DS) (p':Option Addr) (c':Nat) (B:Bst)=>i≤2∧cntF s=cntR (2 - i) i s' B∧s'.loose=s.loose) (fun(i:Nat) (s':DS) (p':Option Addr) (c':Nat) (B:Bst)=>2 - i) (0) (s) (p) (c) (⟨false,0,0⟩) ?_ S.uu ?_ ?_
 exact ⟨by omega,rfl,rfl⟩
 exact S
 clear S;rintro i s' p' c' B uu a w ⟨hi,hre,hsl⟩ S
 refine kS (kR (sq S ?_));clear S;intro a S;refine kN (xtn (kS ?_))
 refine kC S (fun h3=>?_) (fun h3=>?_)
 refine kK (xtn (kS (kB (kS ?_))))
 have hi2:i < 2:=by have:=of_decide_eq_true h3;omega
 rw[show 2 - i=(2 - (i+1))+1 from by omega,cntR]at hre
 refine kR ?_;(iterate 2 (refine sq S ?_;clear S;intro a S));refine kN (xtn (kS (kR ?_)));(iterate 2 (refine sq S ?_;clear S;intro a S))
 refine sit (dkI b m p' c' s') S (dread_c b m p' c' s' (i:Int) _ (by rw[hsl];omega) (S.it (dkI b m p' c' s'))) rfl ?_;clear S;rintro _ a w ⟨rfl,p2,c2,hh,hn⟩ hS
 have S:=hS (dkI b m p2 c2 (rdD s' i)) hh hn
 clear hS
 (iterate 3 (refine sq S ?_;clear S;intro a S));refine sa S ?_;clear S;intro b6 a w S;refine sw S ?_;clear S;intro a w S
 obtain ⟨x,hx⟩:∃ x,x=rdB s' i:=⟨_,rfl⟩
 rw[←hx]at S hre
 refine sq S ?_;clear S;intro a S;refine kN (xtn (kS (kS (kR ?_))));(iterate 2 (refine sq S ?_;clear S;intro a S));refine kN (xtn ?_)
 refine kC S (fun h6=>?_) (fun h6=>?_)
 refine kS (kR ?_);(iterate 2 (refine sq S ?_;clear S;intro a S));refine sw S ?_;clear S;intro a w S;refine sq S ?_;clear S;intro a S;refine kN (xtn (kT (xtr (xbr (xtr (xtr (xbr (xtr ?_))))))))
 have he:askE s' (i:Int) false≠0:=by simpa using h6
 rw[if_neg he]at hre
 have h1:=S.itNew (dkI b m p2 c2 (rdD s' i)) rfl
 have hh:=S.it (dkI b m p2 c2 (rdD s' i))
 refine end2 S (fun _=>?_)
 rw[hre]
 exact ⟨rfl,p2,c2,hh,h1⟩
 refine kK (xtn (kS ?_))
 have hL1:LeC 4 64:=⟨by omega⟩
 have hL2:LeC 64 64:=⟨by omega⟩
 have he:askE s' (i:Int) false=0:=by simpa using h6
 rw[if_pos he]at hre
 refine kR (sq S ?_);clear S;intro a S
 have hold:=foots_lt S
 have hxl:=x.h
 have hg:Stable (fun _=>False) w (GlF (some ⟨b6,4,none⟩) (x.l.drop 4)):=(glStable (glBox (S.box b6))).imp fun _ h=>h.drop 4 (c:=64) (by rw[x.h];omega)
 refine snew S (oread_c (x.l.drop 4) (some ⟨b6,4,none⟩) 60 60 _ (by rw[List.length_drop];omega) (by omega) hg) ?_;clear S;rintro _ a w hsz ⟨br,q,e,rfl,hbr,hrd,hqe,hq⟩ hS -
 have S:=hS (Wk.box br 238 [.slice q (x.l.drop 4).length e,.int .i64 0]) hrd (fun k hk=>by rw[show k=br from hk];exact hbr)
 clear hS
 replace S:=St.addOld S hold hq
 have hd4:(x.l.drop 4).length=60:=by rw[List.length_drop];omega
 have hd8:(x.l.drop 4).length - 4=((x.l.drop 4).drop 4).length:=by simp only[List.length_drop]
 refine sq S ?_;clear S;intro a S;refine kN (xtn (kS (kR (sq S ?_))));clear S;intro a S
 refine sit (Wk.box br 238 [.slice q (x.l.drop 4).length e,.int .i64 0]) S (u32_c br (x.l.drop 4) q e _ (by omega) hqe (by omega) (S.box br) (S.lend (Wk.box br 238 [.slice q (x.l.drop 4).length e,.int .i64 0]) (S.mem.fact (GlF q (x.l.drop 4))))) rfl ?_;clear S;rintro _ a w ⟨rfl,hbx⟩ hS
 have S:=hS (Wk.box br 238 [.slice (if e=4 then q else q.map (·.add (4*1))) ((x.l.drop 4).length - 4) (e - 4),.int .i64 0]) hbx (fun k h=>.inl h)
 clear hS
 replace S:=S.add (Φ:=GlF (if e=4 then q else q.map (·.add (4*1))) ((x.l.drop 4).drop 4)) ((S.mem.fact (GlF q (x.l.drop 4))).imp fun _ h=>h.drop 4 hqe)
 rw[hd8]at S
 obtain ⟨q2,hq2⟩:∃ q2,q2=(if e=4 then q else q.map (·.add (4*1))):=⟨_,rfl⟩
 rw[←hq2]at S
 refine sq S ?_;clear S;intro a S
 have hur:=u32B_range (x.l.drop 4)
 rw[w64 (u32B (x.l.drop 4)) (by omega) (by omega)]at S
 refine sq S ?_;clear S;intro a S
 refine sit (Wk.box br 238 [.slice q2 ((x.l.drop 4).drop 4).length (e - 4),.int .i64 0]) S (u32_c br ((x.l.drop 4).drop 4) q2 (e - 4) _ (by omega) (by omega) (by omega) (S.box br) (S.lend (Wk.box br 238 [.slice q2 ((x.l.drop 4).drop 4).length (e - 4),.int .i64 0]) (S.mem.fact (GlF q2 ((x.l.drop 4).drop 4))))) rfl ?_;clear S;rintro _ a w ⟨rfl,hbx⟩ hS
 have S:=hS (Wk.box br 238 [.slice (if e - 4=4 then q2 else q2.map (·.add (4*1))) (((x.l.drop 4).drop 4).length - 4) (e - 4 - 4),.int .i64 0]) hbx (fun k h=>.inl h)
 clear hS
 (iterate 2 (refine sq S ?_;clear S;intro a S));refine kN (xtn (kS ?_))
 rw[show u32B (x.l.drop 4)=tellN x from rfl,show u32B ((x.l.drop 4).drop 4)=tellT x from rfl]at S
 have hn2:0≤tellN x∧tellN x≤4294967295:=u32B_range _
 have ht2:0≤tellT x∧tellT x≤4294967295:=u32B_range _
 have hT:∀ bs fs,CallV Tryz.prog 176 [.int .u32 (tellT x),.int .i64 (tellN x)] bs fs (vBlk (titleF (tellT x) (tellN x))):=fun bs fs=>⟨fun w _=>title_c (tellT x) (tellN x) ht2 hn2 w⟩
 refine c_drawD [(0,true),(1,true),(2,false),(3,true),(4,true),(5,true),(6,true),(7,true),(8,true),(9,true),(10,true),(11,true),(12,true),(13,true),(14,false),(15,true),(16,true),(17,true),(18,true),(19,true),(20,true),(21,true),(22,true),(23,true),(24,true),(25,true),(26,true),(27,true)] [] S ?_;clear S;intro w S;(iterate 2 (refine dq S ?_;clear S;intro a S));refine dl ?_
 have hdk:(dkI b m p2 c2 (rdD s' i)).holds w:=S.it (dkI b m p2 c2 (rdD s' i))
 refine sr S (may_c b m p2 c2 (rdD s' i).loose.length (rdD s' i) (tellN x) _ (BoxF.stable hdk.1 (fun h=>h))) ?_;clear S;rintro _ a w rfl S
 refine de S ?_;refine dq S ?_;clear S;intro a S;(iterate 5 (refine dqG S ?_;clear S;intro a S));(iterate 2 (refine dq S ?_;clear S;intro a S));(iterate 3 (refine dqG S ?_;clear S;intro a S));refine dl ?_;refine gC S ?_;clear S;intro a w S;refine de S ?_;refine dqG S ?_;clear S;intro a S;(iterate 2 (refine dq S ?_;clear S;intro a S));(iterate 9 (refine dqG S ?_;clear S;intro a S));refine dq S ?_;clear S;intro a S;refine dn (xtn ?_)
 refine kC S (fun h10=>?_) (fun h10=>?_)
 refine kR ?_;(iterate 4 (refine sq S ?_;clear S;intro a S));refine sw S ?_;clear S;intro a w S;refine kN (xbn (xtn (kR ?_)));(iterate 2 (refine sq S ?_;clear S;intro a S));refine kN (xtn ?_)
 rw[show IntKind.i64.wrap ((i:Int)+1)=((i+1:Nat):Int) from by rw[w64 _ (by omega) (by omega)];rfl]at S
 have hc:cntStep (rdD s' i) i x B=⟨true,tellN x,tellT x⟩:=by
  rw[Int.tmod_eq_emod_of_nonneg ht2.1,w64 _ (by omega) (by omega),ptB_none]at h10
  rw[cntStep,candF,if_pos h10]
 rw[hc]at hre
 refine ⟨i+1,rdD s' i,p2,c2,⟨true,tellN x,tellT x⟩,S.uu,⟨by omega,hre,by rw[rdD_loose,hsl]⟩,S.sub [Wk.box b4 132 [.pointer (some ⟨b,0,none⟩),.int .i64 (tellN x),.int .u32 (tellT x)],Wk.box b2 132 [.pointer none,.int .i64 0,.int .u32 0],dkI b m p2 c2 (rdD s' i)] [],by omega⟩
 refine kK (xbn (xtn (kR ?_)));(iterate 2 (refine sq S ?_;clear S;intro a S));refine kN (xtn ?_)
 rw[show IntKind.i64.wrap ((i:Int)+1)=((i+1:Nat):Int) from by rw[w64 _ (by omega) (by omega)];rfl]at S
 have hc:cntStep (rdD s' i) i x B=B:=by
  rw[Int.tmod_eq_emod_of_nonneg ht2.1,w64 _ (by omega) (by omega),ptB_none]at h10
  rw[cntStep,candF,if_neg (by rw[h10];exact Bool.false_ne_true)]
 rw[hc]at hre
 refine ⟨i+1,rdD s' i,p2,c2,B,S.uu,⟨by omega,hre,by rw[rdD_loose,hsl]⟩,S.sub _ _,by omega⟩
 refine kE (xte (xte (xbe (xtn (kS (kS (kR ?_)))))));(iterate 3 (refine sq S ?_;clear S;intro a S));refine kN (xtn ?_)
 refine kC S (fun h13=>?_) (fun h13=>?_)
 refine kS (kR (sq S ?_));clear S;intro a S;refine sw S ?_;clear S;intro a w S;refine sq S ?_;clear S;intro a S;refine kN (xtn (kT (xtr ?_)))
 have hi2:i=2:=by have:=of_decide_eq_false h3;omega
 subst hi2
 rw[ptB_none]at h13
 have hB:B.has=false:=by simpa using h13
 have h1:=S.itNew (dkI b m p' c' s') rfl
 have hh:=S.it (dkI b m p' c' s')
 refine end2 S (fun _=>?_)
 rw[hre,cntR,if_neg (by rw[hB];exact Bool.false_ne_true)]
 exact ⟨rfl,p',c',hh,h1⟩
 refine kK (xtn (kS (kR (sq S ?_))));clear S;intro a S;refine sw S ?_;clear S;intro a w S;refine sq S ?_;clear S;intro a S;refine kN (xtn (kT ?_))
 have hi2:i=2:=by have:=of_decide_eq_false h3;omega
 subst hi2
 rw[ptB_none]at h13
 have hB:B.has=true:=by simpa using h13
 have h1:=S.itNew (dkI b m p' c' s') rfl
 have hh:=S.it (dkI b m p' c' s')
 refine end2 S (fun _=>?_)
 rw[hre,cntR,if_pos hB]
 exact ⟨rfl,p',c',hh,h1⟩
end Go.Proofs.YtdakncgafdnjfaaGreat